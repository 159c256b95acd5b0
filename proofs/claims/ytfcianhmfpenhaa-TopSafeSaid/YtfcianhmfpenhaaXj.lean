/- Walks: the limits of the law. -/
import Derived.Test.YtfcianhmfpenhaaXi
namespace Go.Proofs.Ytfcianhmfpenhaa
open Go.RowKit Go.Maps
set_option linter.unusedVariables false
set_option linter.unusedSimpArgs false
theorem mod_rng (x : Int) {m : Int} (h : 1 ≤ m) : 0 ≤ x % m ∧ x % m ≤ m - 1 := by
  have := Int.emod_nonneg x (show m ≠ 0 by omega)
  have := Int.emod_lt_of_pos x (show 0 < m by omega)
  omega
set_option maxRecDepth 100000 in
set_option maxHeartbeats 4000000 in
theorem slim_any (a b c d e : Int) (h1 : 0 ≤ a) (h2 : a ≤ 65535) (h3 : 0 ≤ b) (h4 : b ≤ 65535) (h5 : 0 ≤ c) (h6 : c ≤ 65535) (h7 : 0 ≤ d) (h8 : d ≤ 65535) (h9 : 0 ≤ e) (h10 : e ≤ 65535) (w : World) :
    Calls Try.prog 5 #[.agg #[.int .u16 a, .int .u16 b, .int .u16 c, .int .u16 d, .int .u16 e]] w fun en w' => en = .returned (lim (1 + a % 400) (1 + b % (1 + a % 400)) (1 + c % (1 + a % 400)) (d % 60) (e % 1500)) ∧ Below w.heap.size w w' := by
  obtain ⟨q1, q2⟩ := mod_rng a (m := 400) (by omega)
  obtain ⟨q3, q4⟩ := mod_rng b (m := 1 + a % 400) (by omega)
  obtain ⟨q5, q6⟩ := mod_rng c (m := 1 + a % 400) (by omega)
  obtain ⟨q7, q8⟩ := mod_rng d (m := 60) (by omega)
  obtain ⟨q9, q10⟩ := mod_rng e (m := 1500) (by omega)
  have hne : ¬ (1 + a % 400 = 0) := by omega
  go_enter Try.func5, Try.ntmps5
  go_wp2_with fail
  have hl0 : ∀ (z : Later ((w.alloc (.cells #[.int .u16 a, .int .u16 b, .int .u16 c, .int .u16 d, .int .u16 e] 23)).alloc (.cells #[.int .i64 0, .int .i64 0, .int .i64 0, .int .i64 0, .int .i64 0] 27))) (o : Nat), z.val.cell? ⟨w.heap.size, o, none⟩ = ((w.alloc (.cells #[.int .u16 a, .int .u16 b, .int .u16 c, .int .u16 d, .int .u16 e] 23)).alloc (.cells #[.int .i64 0, .int .i64 0, .int .i64 0, .int .i64 0, .int .i64 0] 27)).cell? ⟨w.heap.size, o, none⟩ := fun z o => z.cell (by simp <;> omega)
  have hl1 : ∀ (z : Later ((w.alloc (.cells #[.int .u16 a, .int .u16 b, .int .u16 c, .int .u16 d, .int .u16 e] 23)).alloc (.cells #[.int .i64 0, .int .i64 0, .int .i64 0, .int .i64 0, .int .i64 0] 27))) (o : Nat), z.val.cell? ⟨w.heap.size + 1, o, none⟩ = ((w.alloc (.cells #[.int .u16 a, .int .u16 b, .int .u16 c, .int .u16 d, .int .u16 e] 23)).alloc (.cells #[.int .i64 0, .int .i64 0, .int .i64 0, .int .i64 0, .int .i64 0] 27)).cell? ⟨w.heap.size + 1, o, none⟩ := fun z o => z.cell (by simp <;> omega)
  have hz1 : ∀ (z : Later ((w.alloc (.cells #[.int .u16 a, .int .u16 b, .int .u16 c, .int .u16 d, .int .u16 e] 23)).alloc (.cells #[.int .i64 0, .int .i64 0, .int .i64 0, .int .i64 0, .int .i64 0] 27))) (o : Nat), z.val.frozen? ⟨w.heap.size + 1, o, none⟩ = ((w.alloc (.cells #[.int .u16 a, .int .u16 b, .int .u16 c, .int .u16 d, .int .u16 e] 23)).alloc (.cells #[.int .i64 0, .int .i64 0, .int .i64 0, .int .i64 0, .int .i64 0] 27)).frozen? ⟨w.heap.size + 1, o, none⟩ := fun z o => z.frz (by simp <;> omega)
  refine wp_region_later_tail 22 (Below.refl _ _) (by kernel_rfl) (by kernel_rfl) ?_
  simp only [List.take_succ_cons, List.take_zero, List.drop_succ_cons, List.drop_zero]
  repeat (go_big_quiet_step (fail))
  refine wpQuiet_nil ?_
  intro _ hw'
  obtain ⟨y0, hw''⟩ := hw'
  subst hw''
  go_wp2
  (try simp only [Exit.inBlock, Exit.then])
  refine bodyPost_ret (v := lim (1 + a % 400) (1 + b % (1 + a % 400)) (1 + c % (1 + a % 400)) (d % 60) (e % 1500)) (by simp [results, Try.results5, go_sem, hl1]) rfl ?_
  exact ⟨rfl, ((((((box2 y0.ok).setCell (by simp <;> omega) _).setCell (by simp <;> omega) _).setCell (by simp <;> omega) _).setCell (by simp <;> omega) _).setCell (by simp <;> omega) _)⟩
end Go.Proofs.Ytfcianhmfpenhaa
