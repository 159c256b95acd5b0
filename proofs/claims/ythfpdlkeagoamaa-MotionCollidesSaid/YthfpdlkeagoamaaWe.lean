/- Walks: valid motions. -/
import Derived.Test.YthfpdlkeagoamaaWd
import Derived.Test.YthfpdlkeagoamaaEqs
namespace Go.Proofs.Ythfpdlkeagoamaa
open Go.RowKit
set_option linter.unusedVariables false
theorem chkE_true {S A B H M : Int} (h : chk S A B H M = true) : chkE S A B H M = 0 := by unfold chkE; rw [h]; rfl
theorem chkE_false {S A B H M : Int} (h : chk S A B H M = false) : chkE S A B H M = 4 := by unfold chkE; rw [h]; rfl
theorem sq_S {S : Int} (h1 : 1 ≤ S) (h2 : S ≤ 4096) : 0 ≤ S * S ∧ S * S ≤ 16777216 := by
  have a := Int.mul_nonneg (show 0 ≤ S by omega) (show 0 ≤ S by omega)
  have b := sq_le (a := S) (b := 4096) (by omega) h2
  omega
set_option maxHeartbeats 2000000 in
theorem valid_any (px py vx vy S A B H M : Int) (w : World) : Calls Try.prog 12 #[mo px py vx vy, lim S A B H M] w fun e w' => e = .returned (.bool (vld px py vx vy S A B H M)) ∧ Below w.heap.size w w' := by
  have hE : Hid (vld px py vx vy S A B H M = (chk S A B H M && (inB vx (-S) S && (inB vy (-S) S && (sqOk vx vy S && (decide (px = clp px) && decide (py = clp py))))))) := hid vld_prog
  cases e1 : chk S A B H M with
  | false =>
    have ce := hid (chkE_false e1)
    have hv : Hid (vld px py vx vy S A B H M = false) := hid (by rw [hE.out, e1]; rfl)
    go_enter Try.func12, Try.ntmps12
    go_wp2_with (first
      | (go_at_call 10; (with_reducible refine (check_any _ _ _ _ _ _).mono ?_); rintro e w2 ⟨rfl, hb⟩; obtain ⟨hc, hf⟩ := bcell hb; rw [ce.out])
      | (go_at_call 28; (with_reducible refine (within_any _ _ _ _).mono ?_); rintro e w3 ⟨rfl, rfl⟩))
    go_ret
    exact ⟨ret_bool hv.out.symm, box2 hb⟩
  | true =>
    have ce := hid (chkE_true e1)
    have hk := chk_true e1
    obtain ⟨hs1, hs2, _⟩ := hk
    obtain ⟨hq1, hq2⟩ := sq_S hs1 hs2
    cases e2 : inB vx (-S) S with
    | false =>
      have hv : Hid (vld px py vx vy S A B H M = false) := hid (by rw [hE.out, e1, e2]; rfl)
      go_enter Try.func12, Try.ntmps12
      go_wp2_with (first
      | (go_at_call 10; (with_reducible refine (check_any _ _ _ _ _ _).mono ?_); rintro e w2 ⟨rfl, hb⟩; obtain ⟨hc, hf⟩ := bcell hb; rw [ce.out])
      | (go_at_call 28; (with_reducible refine (within_any _ _ _ _).mono ?_); rintro e w3 ⟨rfl, rfl⟩))
      go_ret
      exact ⟨ret_bool hv.out.symm, box2 hb⟩
    | true =>
      cases e3 : inB vy (-S) S with
      | false =>
        have hv : Hid (vld px py vx vy S A B H M = false) := hid (by rw [hE.out, e1, e2, e3]; rfl)
        go_enter Try.func12, Try.ntmps12
        go_wp2_with (first
      | (go_at_call 10; (with_reducible refine (check_any _ _ _ _ _ _).mono ?_); rintro e w2 ⟨rfl, hb⟩; obtain ⟨hc, hf⟩ := bcell hb; rw [ce.out])
      | (go_at_call 28; (with_reducible refine (within_any _ _ _ _).mono ?_); rintro e w3 ⟨rfl, rfl⟩))
        go_ret
        exact ⟨ret_bool hv.out.symm, box2 hb⟩
      | true =>
        have hx := inB_true e2
        have hy := inB_true e3
        have hn1 := sqr_nonneg vx vy
        have hn2 := sqr_le (x := vx) (y := vy) (b := 4096) (by omega) (by omega) (by omega) (by omega)
        cases e4 : decide (sqr vx vy ≤ S * S) with
        | false =>
          have hv : Hid (vld px py vx vy S A B H M = false) := hid (by rw [hE.out, e1, e2, e3]; unfold sqOk; rw [e4]; rfl)
          clear hE
          go_enter Try.func12, Try.ntmps12
          go_wp2_with (first
      | (go_at_call 10; (with_reducible refine (check_any _ _ _ _ _ _).mono ?_); rintro e w2 ⟨rfl, hb⟩; obtain ⟨hc, hf⟩ := bcell hb; rw [ce.out])
      | (go_at_call 28; (with_reducible refine (within_any _ _ _ _).mono ?_); rintro e w3 ⟨rfl, rfl⟩))
          have hsz : w.heap.size + 1 < w2.heap.size := by have := hb.size; simp at this; omega
          have hl1 : ∀ (z : Later w2) (o : Nat), z.val.cell? ⟨w.heap.size, o, none⟩ = ((w.alloc (.cells #[.int .i64 px, .int .i64 py, .int .i64 vx, .int .i64 vy] 25)).alloc (.cells #[.int .i64 S, .int .i64 A, .int .i64 B, .int .i64 H, .int .i64 M] 27)).cell? ⟨w.heap.size, o, none⟩ := fun z o => (z.cell (by omega)).trans (hc _ _ (by simp <;> omega))
          have hl2 : ∀ (z : Later w2) (o : Nat), z.val.cell? ⟨w.heap.size + 1, o, none⟩ = ((w.alloc (.cells #[.int .i64 px, .int .i64 py, .int .i64 vx, .int .i64 vy] 25)).alloc (.cells #[.int .i64 S, .int .i64 A, .int .i64 B, .int .i64 H, .int .i64 M] 27)).cell? ⟨w.heap.size + 1, o, none⟩ := fun z o => (z.cell (by omega)).trans (hc _ _ (by simp <;> omega))
          clear hc hf
          have qe := eql_pt
          refine wp_region_later (Below.refl _ _) (by kernel_rfl) (by kernel_rfl) ?_
          repeat (go_big_quiet_step ((first
            | (go_at_call 30; exact calls_later (msquare_any _ _ (by omega) (by omega) (by omega) (by omega) _))
            | (go_at_call 31; exact calls_later (clamped_any _ _ _)))))
          refine wpQuiet_nil ?_
          intro _ hw'
          obtain ⟨y0, hw''⟩ := hw'
          subst hw''
          go_wp2
          go_ret
          exact ⟨ret_bool hv.out.symm, below_then (box2 hb) y0.ok⟩
        | true =>
          have hv : Hid (vld px py vx vy S A B H M = (decide (px = clp px) && decide (py = clp py))) := hid (by rw [hE.out, e1, e2, e3]; unfold sqOk; rw [e4]; rfl)
          clear hE
          go_enter Try.func12, Try.ntmps12
          go_wp2_with (first
      | (go_at_call 10; (with_reducible refine (check_any _ _ _ _ _ _).mono ?_); rintro e w2 ⟨rfl, hb⟩; obtain ⟨hc, hf⟩ := bcell hb; rw [ce.out])
      | (go_at_call 28; (with_reducible refine (within_any _ _ _ _).mono ?_); rintro e w3 ⟨rfl, rfl⟩))
          have hsz : w.heap.size + 1 < w2.heap.size := by have := hb.size; simp at this; omega
          have hl1 : ∀ (z : Later w2) (o : Nat), z.val.cell? ⟨w.heap.size, o, none⟩ = ((w.alloc (.cells #[.int .i64 px, .int .i64 py, .int .i64 vx, .int .i64 vy] 25)).alloc (.cells #[.int .i64 S, .int .i64 A, .int .i64 B, .int .i64 H, .int .i64 M] 27)).cell? ⟨w.heap.size, o, none⟩ := fun z o => (z.cell (by omega)).trans (hc _ _ (by simp <;> omega))
          have hl2 : ∀ (z : Later w2) (o : Nat), z.val.cell? ⟨w.heap.size + 1, o, none⟩ = ((w.alloc (.cells #[.int .i64 px, .int .i64 py, .int .i64 vx, .int .i64 vy] 25)).alloc (.cells #[.int .i64 S, .int .i64 A, .int .i64 B, .int .i64 H, .int .i64 M] 27)).cell? ⟨w.heap.size + 1, o, none⟩ := fun z o => (z.cell (by omega)).trans (hc _ _ (by simp <;> omega))
          clear hc hf
          have qe := eql_pt
          refine wp_region_later (Below.refl _ _) (by kernel_rfl) (by kernel_rfl) ?_
          repeat (go_big_quiet_step ((first
            | (go_at_call 30; exact calls_later (msquare_any _ _ (by omega) (by omega) (by omega) (by omega) _))
            | (go_at_call 31; exact calls_later (clamped_any _ _ _)))))
          refine wpQuiet_nil ?_
          intro _ hw'
          obtain ⟨y0, hw''⟩ := hw'
          subst hw''
          go_wp2
          go_ret
          exact ⟨ret_bool hv.out.symm, below_then (box2 hb) y0.ok⟩
end Go.Proofs.Ythfpdlkeagoamaa
