/- Walks: Check, clamped points, ticks, valid motions. -/
import Derived.Test.YtfcianhmfpenhaaWb
import Derived.Test.YtfcianhmfpenhaaMot
import Derived.Test.YtfcianhmfpenhaaEqs
namespace Go.Proofs.Ytfcianhmfpenhaa
open Go.RowKit
set_option linter.unusedVariables false
set_option linter.unusedSimpArgs false
abbrev lim (S A B H M : Int) : Value := .agg #[.int .i64 S, .int .i64 A, .int .i64 B, .int .i64 H, .int .i64 M]
abbrev mo (px py vx vy : Int) : Value := .agg #[.int .i64 px, .int .i64 py, .int .i64 vx, .int .i64 vy]
theorem within_any (n lo hi : Int) (w : World) : Calls Try.prog 28 #[.int .i64 n, .int .i64 lo, .int .i64 hi] w fun e w' => e = .returned (.bool (inB n lo hi)) ∧ w = w' := by
  rcases Int.lt_or_le n lo with h1 | h1
  · go_enter Try.func28, Try.ntmps28
    go_wp2
    go_ret
    exact ⟨ret_bool (by unfold inB; simp; omega), rfl⟩
  · rcases Int.lt_or_le hi n with h2 | h2
    · go_enter Try.func28, Try.ntmps28
      go_wp2
      go_ret
      exact ⟨ret_bool (by unfold inB; simp; omega), rfl⟩
    · go_enter Try.func28, Try.ntmps28
      go_wp2
      go_ret
      exact ⟨ret_bool (by unfold inB; simp; omega), rfl⟩
set_option maxHeartbeats 1000000 in
theorem check_any (S A B H M : Int) (w : World) : Calls Try.prog 17 #[lim S A B H M] w fun e w' => e = .returned (.int .i64 (chkE S A B H M)) ∧ Below w.heap.size w w' := by
  cases e1 : inB S 1 4096 with
  | false =>
    have hv : Hid (chkE S A B H M = 4) := hid (by unfold chkE chk; rw [e1]; rfl)
    go_enter Try.func17, Try.ntmps17
    go_wp2_with (first | (go_at_call 28; (with_reducible refine (within_any _ _ _ _).mono ?_); rintro e w2 ⟨rfl, rfl⟩))
    go_ret
    exact ⟨ret_int hv.out.symm, by go_grown⟩
  | true =>
    cases e2 : inB A 1 S with
    | false =>
      have hv : Hid (chkE S A B H M = 4) := hid (by unfold chkE chk; rw [e1, e2]; rfl)
      go_enter Try.func17, Try.ntmps17
      go_wp2_with (first | (go_at_call 28; (with_reducible refine (within_any _ _ _ _).mono ?_); rintro e w2 ⟨rfl, rfl⟩))
      go_ret
      exact ⟨ret_int hv.out.symm, by go_grown⟩
    | true =>
      cases e3 : inB B 1 S with
      | false =>
        have hv : Hid (chkE S A B H M = 4) := hid (by unfold chkE chk; rw [e1, e2, e3]; rfl)
        go_enter Try.func17, Try.ntmps17
        go_wp2_with (first | (go_at_call 28; (with_reducible refine (within_any _ _ _ _).mono ?_); rintro e w2 ⟨rfl, rfl⟩))
        go_ret
        exact ⟨ret_int hv.out.symm, by go_grown⟩
      | true =>
        cases e4 : inB H 0 4096 with
        | false =>
          have hv : Hid (chkE S A B H M = 4) := hid (by unfold chkE chk; rw [e1, e2, e3, e4]; rfl)
          go_enter Try.func17, Try.ntmps17
          go_wp2_with (first | (go_at_call 28; (with_reducible refine (within_any _ _ _ _).mono ?_); rintro e w2 ⟨rfl, rfl⟩))
          go_ret
          exact ⟨ret_int hv.out.symm, by go_grown⟩
        | true =>
          cases e5 : inB M 0 1048576 with
          | false =>
            have hv : Hid (chkE S A B H M = 4) := hid (by unfold chkE chk; rw [e1, e2, e3, e4, e5]; rfl)
            go_enter Try.func17, Try.ntmps17
            go_wp2_with (first | (go_at_call 28; (with_reducible refine (within_any _ _ _ _).mono ?_); rintro e w2 ⟨rfl, rfl⟩))
            go_ret
            exact ⟨ret_int hv.out.symm, by go_grown⟩
          | true =>
            have hv : Hid (chkE S A B H M = 0) := hid (by unfold chkE chk; rw [e1, e2, e3, e4, e5]; rfl)
            go_enter Try.func17, Try.ntmps17
            go_wp2_with (first | (go_at_call 28; (with_reducible refine (within_any _ _ _ _).mono ?_); rintro e w2 ⟨rfl, rfl⟩))
            go_ret
            exact ⟨ret_int hv.out.symm, by go_grown⟩
theorem one_any (n : Int) (w : World) : Calls Try.prog 50 #[.int .i64 n] w fun e w' => e = .returned (.int .i64 (clp n)) ∧ w = w' := by
  go_enter Try.func50, Try.ntmps50
  go_wp2_with (first | (go_at_call 51; (with_reducible refine (clamp_any _ _ _ _).mono ?_); rintro e w2 ⟨rfl, rfl⟩))
  go_ret
  exact ⟨rfl, rfl⟩
set_option maxHeartbeats 1000000 in
theorem clamped_any (x y : Int)  (w : World) : Calls Try.prog 40 #[pt x y] w fun e w' => e = .returned (pt (clp x) (clp y)) ∧ Below w.heap.size w w' := by
  go_enter Try.func40, Try.ntmps40
  go_wp2_with fail
  have hl0 : ∀ (z : Later ((w.alloc (.cells #[.int .i64 x, .int .i64 y] 35)).alloc (.cells #[.int .i64 0, .int .i64 0] 35))) (o : Nat), z.val.cell? ⟨w.heap.size, o, none⟩ = ((w.alloc (.cells #[.int .i64 x, .int .i64 y] 35)).alloc (.cells #[.int .i64 0, .int .i64 0] 35)).cell? ⟨w.heap.size, o, none⟩ := fun z o => z.cell (by simp <;> omega)
  have hl1 : ∀ (z : Later ((w.alloc (.cells #[.int .i64 x, .int .i64 y] 35)).alloc (.cells #[.int .i64 0, .int .i64 0] 35))) (o : Nat), z.val.cell? ⟨w.heap.size + 1, o, none⟩ = ((w.alloc (.cells #[.int .i64 x, .int .i64 y] 35)).alloc (.cells #[.int .i64 0, .int .i64 0] 35)).cell? ⟨w.heap.size + 1, o, none⟩ := fun z o => z.cell (by simp <;> omega)
  have hz1 : ∀ (z : Later ((w.alloc (.cells #[.int .i64 x, .int .i64 y] 35)).alloc (.cells #[.int .i64 0, .int .i64 0] 35))) (o : Nat), z.val.frozen? ⟨w.heap.size + 1, o, none⟩ = ((w.alloc (.cells #[.int .i64 x, .int .i64 y] 35)).alloc (.cells #[.int .i64 0, .int .i64 0] 35)).frozen? ⟨w.heap.size + 1, o, none⟩ := fun z o => z.frz (by simp <;> omega)
  refine wp_region_later_tail 9 (Below.refl _ _) (by kernel_rfl) (by kernel_rfl) ?_
  simp only [List.take_succ_cons, List.take_zero, List.drop_succ_cons, List.drop_zero]
  repeat (go_big_quiet_step (((go_at_call 50; exact calls_later_same (one_any _ _)))))
  refine wpQuiet_nil ?_
  intro _ hw'
  obtain ⟨y0, hw''⟩ := hw'
  subst hw''
  go_wp2
  (try simp only [Exit.inBlock, Exit.then])
  refine bodyPost_ret (v := pt (clp x) (clp y)) (by simp [results, Try.results40, go_sem, hl1]) rfl ?_
  exact ⟨rfl, (((box2 y0.ok).setCell (by simp <;> omega) _).setCell (by simp <;> omega) _)⟩
theorem ret_pt {a b c d : Int} (h : a = c) (h2 : b = d) : Ending.returned (pt a b) = .returned (pt c d) := by rw [h, h2]
set_option maxHeartbeats 1000000 in
theorem tick_any (px py vx vy ux uy : Int) (h1 : -1048576 ≤ px) (h2 : px ≤ 1048576) (h3 : -1048576 ≤ py) (h4 : py ≤ 1048576) (h5 : -1048576 ≤ ux) (h6 : ux ≤ 1048576) (h7 : -1048576 ≤ uy) (h8 : uy ≤ 1048576) (w : World) : Calls Try.prog 41 #[mo px py vx vy, pt ux uy] w fun e w' => e = .returned (mo (clp (px + ux)) (clp (py + uy)) ux uy) ∧ Below w.heap.size w w' := by
  go_enter Try.func41, Try.ntmps41
  go_wp2_with fail
  have hl0 : ∀ (z : Later (((w.alloc (.cells #[.int .i64 px, .int .i64 py, .int .i64 vx, .int .i64 vy] 37)).alloc (.cells #[.int .i64 ux, .int .i64 uy] 35)).alloc (.cells #[.int .i64 0, .int .i64 0, .int .i64 0, .int .i64 0] 37))) (o : Nat), z.val.cell? ⟨w.heap.size, o, none⟩ = (((w.alloc (.cells #[.int .i64 px, .int .i64 py, .int .i64 vx, .int .i64 vy] 37)).alloc (.cells #[.int .i64 ux, .int .i64 uy] 35)).alloc (.cells #[.int .i64 0, .int .i64 0, .int .i64 0, .int .i64 0] 37)).cell? ⟨w.heap.size, o, none⟩ := fun z o => z.cell (by simp <;> omega)
  have hl1 : ∀ (z : Later (((w.alloc (.cells #[.int .i64 px, .int .i64 py, .int .i64 vx, .int .i64 vy] 37)).alloc (.cells #[.int .i64 ux, .int .i64 uy] 35)).alloc (.cells #[.int .i64 0, .int .i64 0, .int .i64 0, .int .i64 0] 37))) (o : Nat), z.val.cell? ⟨w.heap.size + 1, o, none⟩ = (((w.alloc (.cells #[.int .i64 px, .int .i64 py, .int .i64 vx, .int .i64 vy] 37)).alloc (.cells #[.int .i64 ux, .int .i64 uy] 35)).alloc (.cells #[.int .i64 0, .int .i64 0, .int .i64 0, .int .i64 0] 37)).cell? ⟨w.heap.size + 1, o, none⟩ := fun z o => z.cell (by simp <;> omega)
  have hl2 : ∀ (z : Later (((w.alloc (.cells #[.int .i64 px, .int .i64 py, .int .i64 vx, .int .i64 vy] 37)).alloc (.cells #[.int .i64 ux, .int .i64 uy] 35)).alloc (.cells #[.int .i64 0, .int .i64 0, .int .i64 0, .int .i64 0] 37))) (o : Nat), z.val.cell? ⟨w.heap.size + 1 + 1, o, none⟩ = (((w.alloc (.cells #[.int .i64 px, .int .i64 py, .int .i64 vx, .int .i64 vy] 37)).alloc (.cells #[.int .i64 ux, .int .i64 uy] 35)).alloc (.cells #[.int .i64 0, .int .i64 0, .int .i64 0, .int .i64 0] 37)).cell? ⟨w.heap.size + 1 + 1, o, none⟩ := fun z o => z.cell (by simp <;> omega)
  have hz2 : ∀ (z : Later (((w.alloc (.cells #[.int .i64 px, .int .i64 py, .int .i64 vx, .int .i64 vy] 37)).alloc (.cells #[.int .i64 ux, .int .i64 uy] 35)).alloc (.cells #[.int .i64 0, .int .i64 0, .int .i64 0, .int .i64 0] 37))) (o : Nat), z.val.frozen? ⟨w.heap.size + 1 + 1, o, none⟩ = (((w.alloc (.cells #[.int .i64 px, .int .i64 py, .int .i64 vx, .int .i64 vy] 37)).alloc (.cells #[.int .i64 ux, .int .i64 uy] 35)).alloc (.cells #[.int .i64 0, .int .i64 0, .int .i64 0, .int .i64 0] 37)).frozen? ⟨w.heap.size + 1 + 1, o, none⟩ := fun z o => z.frz (by simp <;> omega)
  refine wp_region_later_tail 7 (Below.refl _ _) (by kernel_rfl) (by kernel_rfl) ?_
  simp only [List.take_succ_cons, List.take_zero, List.drop_succ_cons, List.drop_zero]
  repeat (go_big_quiet_step ((first | (go_at_call 44; exact calls_later (add_any _ _ _ _ (by omega) (by omega) (by omega) (by omega) (by omega) (by omega) (by omega) (by omega) _)) | (go_at_call 40; exact calls_later (clamped_any _ _ _)))))
  refine wpQuiet_nil ?_
  intro _ hw'
  obtain ⟨y0, hw''⟩ := hw'
  subst hw''
  go_wp2
  (try simp only [Exit.inBlock, Exit.then])
  refine bodyPost_ret (v := mo (clp (px + ux)) (clp (py + uy)) ux uy) (by simp [results, Try.results41, go_sem, hl2]) rfl ?_
  exact ⟨rfl, (((((box3 y0.ok).setCell (by simp <;> omega) _).setCell (by simp <;> omega) _).setCell (by simp <;> omega) _).setCell (by simp <;> omega) _)⟩
theorem chkE_true {S A B H M : Int} (h : chk S A B H M = true) : chkE S A B H M = 0 := by unfold chkE; rw [h]; rfl
theorem chkE_false {S A B H M : Int} (h : chk S A B H M = false) : chkE S A B H M = 4 := by unfold chkE; rw [h]; rfl
theorem sq_S {S : Int} (h1 : 1 ≤ S) (h2 : S ≤ 4096) : 0 ≤ S * S ∧ S * S ≤ 16777216 := by
  have a := Int.mul_nonneg (show 0 ≤ S by omega) (show 0 ≤ S by omega)
  have b := sq_le (a := S) (b := 4096) (by omega) h2
  omega
set_option maxHeartbeats 2000000 in
theorem valid_any (px py vx vy S A B H M : Int) (w : World) : Calls Try.prog 31 #[mo px py vx vy, lim S A B H M] w fun e w' => e = .returned (.bool (vld px py vx vy S A B H M)) ∧ Below w.heap.size w w' := by
  have hE : Hid (vld px py vx vy S A B H M = (chk S A B H M && (inB vx (-S) S && (inB vy (-S) S && (sqOk vx vy S && (decide (px = clp px) && decide (py = clp py))))))) := hid vld_prog
  cases e1 : chk S A B H M with
  | false =>
    have ce := hid (chkE_false e1)
    have hv : Hid (vld px py vx vy S A B H M = false) := hid (by rw [hE.out, e1]; rfl)
    go_enter Try.func31, Try.ntmps31
    go_wp2_with (first
      | (go_at_call 17; (with_reducible refine (check_any _ _ _ _ _ _).mono ?_); rintro e w2 ⟨rfl, hb⟩; obtain ⟨hc, hf⟩ := bcell hb; rw [ce.out])
      | (go_at_call 28; (with_reducible refine (within_any _ _ _ _).mono ?_); rintro e w3 ⟨rfl, rfl⟩))
    go_ret
    exact ⟨ret_bool hv.out.symm, box2 hb⟩
  | true =>
    have ce := hid (chkE_true e1)
    have hk := chk_true e1
    obtain ⟨hs1, hs2, _⟩ := hk
    obtain ⟨hq1, hq2⟩ := sq_S hs1 hs2
    cases e2 : inB vx (-S) S with
    | false =>
      have hv : Hid (vld px py vx vy S A B H M = false) := hid (by rw [hE.out, e1, e2]; rfl)
      go_enter Try.func31, Try.ntmps31
      go_wp2_with (first
      | (go_at_call 17; (with_reducible refine (check_any _ _ _ _ _ _).mono ?_); rintro e w2 ⟨rfl, hb⟩; obtain ⟨hc, hf⟩ := bcell hb; rw [ce.out])
      | (go_at_call 28; (with_reducible refine (within_any _ _ _ _).mono ?_); rintro e w3 ⟨rfl, rfl⟩))
      go_ret
      exact ⟨ret_bool hv.out.symm, box2 hb⟩
    | true =>
      cases e3 : inB vy (-S) S with
      | false =>
        have hv : Hid (vld px py vx vy S A B H M = false) := hid (by rw [hE.out, e1, e2, e3]; rfl)
        go_enter Try.func31, Try.ntmps31
        go_wp2_with (first
      | (go_at_call 17; (with_reducible refine (check_any _ _ _ _ _ _).mono ?_); rintro e w2 ⟨rfl, hb⟩; obtain ⟨hc, hf⟩ := bcell hb; rw [ce.out])
      | (go_at_call 28; (with_reducible refine (within_any _ _ _ _).mono ?_); rintro e w3 ⟨rfl, rfl⟩))
        go_ret
        exact ⟨ret_bool hv.out.symm, box2 hb⟩
      | true =>
        have hx := inB_true e2
        have hy := inB_true e3
        have hn1 := sqr_nonneg vx vy
        have hn2 := sqr_le (x := vx) (y := vy) (b := 4096) (by omega) (by omega) (by omega) (by omega)
        cases e4 : decide (sqr vx vy ≤ S * S) with
        | false =>
          have hv : Hid (vld px py vx vy S A B H M = false) := hid (by rw [hE.out, e1, e2, e3]; unfold sqOk; rw [e4]; rfl)
          clear hE
          go_enter Try.func31, Try.ntmps31
          go_wp2_with (first
      | (go_at_call 17; (with_reducible refine (check_any _ _ _ _ _ _).mono ?_); rintro e w2 ⟨rfl, hb⟩; obtain ⟨hc, hf⟩ := bcell hb; rw [ce.out])
      | (go_at_call 28; (with_reducible refine (within_any _ _ _ _).mono ?_); rintro e w3 ⟨rfl, rfl⟩))
          have hsz : w.heap.size + 1 < w2.heap.size := by have := hb.size; simp at this; omega
          have hl1 : ∀ (z : Later w2) (o : Nat), z.val.cell? ⟨w.heap.size, o, none⟩ = ((w.alloc (.cells #[.int .i64 px, .int .i64 py, .int .i64 vx, .int .i64 vy] 37)).alloc (.cells #[.int .i64 S, .int .i64 A, .int .i64 B, .int .i64 H, .int .i64 M] 27)).cell? ⟨w.heap.size, o, none⟩ := fun z o => (z.cell (by omega)).trans (hc _ _ (by simp <;> omega))
          have hl2 : ∀ (z : Later w2) (o : Nat), z.val.cell? ⟨w.heap.size + 1, o, none⟩ = ((w.alloc (.cells #[.int .i64 px, .int .i64 py, .int .i64 vx, .int .i64 vy] 37)).alloc (.cells #[.int .i64 S, .int .i64 A, .int .i64 B, .int .i64 H, .int .i64 M] 27)).cell? ⟨w.heap.size + 1, o, none⟩ := fun z o => (z.cell (by omega)).trans (hc _ _ (by simp <;> omega))
          clear hc hf
          have qe := eql_pt
          refine wp_region_later (Below.refl _ _) (by kernel_rfl) (by kernel_rfl) ?_
          repeat (go_big_quiet_step ((first
            | (go_at_call 39; exact calls_later (msquare_any _ _ (by omega) (by omega) (by omega) (by omega) _))
            | (go_at_call 40; exact calls_later (clamped_any _ _ _)))))
          refine wpQuiet_nil ?_
          intro _ hw'
          obtain ⟨y0, hw''⟩ := hw'
          subst hw''
          go_wp2
          go_ret
          exact ⟨ret_bool hv.out.symm, below_then (box2 hb) y0.ok⟩
        | true =>
          have hv : Hid (vld px py vx vy S A B H M = (decide (px = clp px) && decide (py = clp py))) := hid (by rw [hE.out, e1, e2, e3]; unfold sqOk; rw [e4]; rfl)
          clear hE
          go_enter Try.func31, Try.ntmps31
          go_wp2_with (first
      | (go_at_call 17; (with_reducible refine (check_any _ _ _ _ _ _).mono ?_); rintro e w2 ⟨rfl, hb⟩; obtain ⟨hc, hf⟩ := bcell hb; rw [ce.out])
      | (go_at_call 28; (with_reducible refine (within_any _ _ _ _).mono ?_); rintro e w3 ⟨rfl, rfl⟩))
          have hsz : w.heap.size + 1 < w2.heap.size := by have := hb.size; simp at this; omega
          have hl1 : ∀ (z : Later w2) (o : Nat), z.val.cell? ⟨w.heap.size, o, none⟩ = ((w.alloc (.cells #[.int .i64 px, .int .i64 py, .int .i64 vx, .int .i64 vy] 37)).alloc (.cells #[.int .i64 S, .int .i64 A, .int .i64 B, .int .i64 H, .int .i64 M] 27)).cell? ⟨w.heap.size, o, none⟩ := fun z o => (z.cell (by omega)).trans (hc _ _ (by simp <;> omega))
          have hl2 : ∀ (z : Later w2) (o : Nat), z.val.cell? ⟨w.heap.size + 1, o, none⟩ = ((w.alloc (.cells #[.int .i64 px, .int .i64 py, .int .i64 vx, .int .i64 vy] 37)).alloc (.cells #[.int .i64 S, .int .i64 A, .int .i64 B, .int .i64 H, .int .i64 M] 27)).cell? ⟨w.heap.size + 1, o, none⟩ := fun z o => (z.cell (by omega)).trans (hc _ _ (by simp <;> omega))
          clear hc hf
          have qe := eql_pt
          refine wp_region_later (Below.refl _ _) (by kernel_rfl) (by kernel_rfl) ?_
          repeat (go_big_quiet_step ((first
            | (go_at_call 39; exact calls_later (msquare_any _ _ (by omega) (by omega) (by omega) (by omega) _))
            | (go_at_call 40; exact calls_later (clamped_any _ _ _)))))
          refine wpQuiet_nil ?_
          intro _ hw'
          obtain ⟨y0, hw''⟩ := hw'
          subst hw''
          go_wp2
          go_ret
          exact ⟨ret_bool hv.out.symm, below_then (box2 hb) y0.ok⟩
end Go.Proofs.Ytfcianhmfpenhaa
