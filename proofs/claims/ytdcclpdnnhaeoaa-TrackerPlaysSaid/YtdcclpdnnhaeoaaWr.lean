/- Walks: along, Limits: helpers of the statements. -/
import Derived.Test.YtdcclpdnnhaeoaaWq
namespace Go.Proofs.Ytdcclpdnnhaeoaa
open Go.RowKit
set_option linter.unusedVariables false
set_option linter.unusedSimpArgs false
def alX (s n : Int) : Int := if s.tmod 4 = 0 then n else if s.tmod 4 = 1 then -n else 0
def alY (s n : Int) : Int := if s.tmod 4 = 0 then 0 else if s.tmod 4 = 1 then 0 else if s.tmod 4 = 2 then n else -n
theorem tm4 {s : Int} (h1 : 0 ≤ s) (h2 : s ≤ 255) : s.tmod 4 = 0 ∨ s.tmod 4 = 1 ∨ s.tmod 4 = 2 ∨ s.tmod 4 = 3 := by
  rw [Int.tmod_eq_emod_of_nonneg h1]
  omega
set_option maxHeartbeats 2000000 in
theorem along_any (s n : Int) (h1 : 0 ≤ s) (h2 : s ≤ 255) (n1 : -1000000000 ≤ n) (n2 : n ≤ 1000000000) (w : World) : Calls Try.prog 22 #[.int .u8 s, .int .i64 n] w fun e w' => e = .returned (pt (alX s n) (alY s n)) ∧ Below w.heap.size w w' := by
  unfold alX alY
  rcases tm4 h1 h2 with h | h | h | h
  · rw [h]
    go_enter Try.func22, Try.ntmps22
    go_wp2_with fail
    (try simp only [Exit.inBlock, Exit.then])
    refine bodyPost_ret (v := pt n 0) (by simp [results, Try.results22, go_sem]) rfl ?_
    exact ⟨rfl, (Below.refl _ _).alloc (Nat.le_refl _) _⟩
  · rw [h]
    go_enter Try.func22, Try.ntmps22
    go_wp2_with fail
    (try simp only [Exit.inBlock, Exit.then])
    refine bodyPost_ret (v := pt (-n) 0) (by simp [results, Try.results22, go_sem]) rfl ?_
    exact ⟨rfl, (Below.refl _ _).alloc (Nat.le_refl _) _⟩
  · rw [h]
    go_enter Try.func22, Try.ntmps22
    go_wp2_with fail
    (try simp only [Exit.inBlock, Exit.then])
    refine bodyPost_ret (v := pt 0 n) (by simp [results, Try.results22, go_sem]) rfl ?_
    exact ⟨rfl, (Below.refl _ _).alloc (Nat.le_refl _) _⟩
  · rw [h]
    go_enter Try.func22, Try.ntmps22
    go_wp2_with fail
    (try simp only [Exit.inBlock, Exit.then])
    refine bodyPost_ret (v := pt 0 (-n)) (by simp [results, Try.results22, go_sem]) rfl ?_
    exact ⟨rfl, (Below.refl _ _).alloc (Nat.le_refl _) _⟩
set_option maxHeartbeats 1000000 in
theorem limits_any (a b c : Int) (h1 : 0 ≤ a) (h2 : a ≤ 255) (h3 : 0 ≤ b) (h4 : b ≤ 255) (h5 : 0 ≤ c) (h6 : c ≤ 255) (w : World) : Calls Try.prog 13 #[.agg #[.int .u8 a, .int .u8 b, .int .u8 c]] w fun e w' => e = .returned (lim (a + 1) (b % (a + 1) + 1) (c % (a + 1) + 1) 0 0) ∧ Below w.heap.size w w' := by
  have q1 : 0 ≤ b % (a + 1) ∧ b % (a + 1) ≤ 255 := by have := Int.emod_nonneg b (show a + 1 ≠ 0 by omega); have := Int.emod_lt_of_pos b (show 0 < a + 1 by omega); omega
  have q2 : 0 ≤ c % (a + 1) ∧ c % (a + 1) ≤ 255 := by have := Int.emod_nonneg c (show a + 1 ≠ 0 by omega); have := Int.emod_lt_of_pos c (show 0 < a + 1 by omega); omega
  obtain ⟨q3, q4⟩ := q1
  obtain ⟨q5, q6⟩ := q2
  have hne : ¬ (a + 1 = 0) := by omega
  go_enter Try.func13, Try.ntmps13
  go_wp2_with fail
  have hl0 : ∀ (z : Later ((w.alloc (.cells #[.int .u8 a, .int .u8 b, .int .u8 c] 22)).alloc (.cells #[.int .i64 0, .int .i64 0, .int .i64 0, .int .i64 0, .int .i64 0] 27))) (o : Nat), z.val.cell? ⟨w.heap.size, o, none⟩ = ((w.alloc (.cells #[.int .u8 a, .int .u8 b, .int .u8 c] 22)).alloc (.cells #[.int .i64 0, .int .i64 0, .int .i64 0, .int .i64 0, .int .i64 0] 27)).cell? ⟨w.heap.size, o, none⟩ := fun z o => z.cell (by simp <;> omega)
  have hl1 : ∀ (z : Later ((w.alloc (.cells #[.int .u8 a, .int .u8 b, .int .u8 c] 22)).alloc (.cells #[.int .i64 0, .int .i64 0, .int .i64 0, .int .i64 0, .int .i64 0] 27))) (o : Nat), z.val.cell? ⟨w.heap.size + 1, o, none⟩ = ((w.alloc (.cells #[.int .u8 a, .int .u8 b, .int .u8 c] 22)).alloc (.cells #[.int .i64 0, .int .i64 0, .int .i64 0, .int .i64 0, .int .i64 0] 27)).cell? ⟨w.heap.size + 1, o, none⟩ := fun z o => z.cell (by simp <;> omega)
  have hz1 : ∀ (z : Later ((w.alloc (.cells #[.int .u8 a, .int .u8 b, .int .u8 c] 22)).alloc (.cells #[.int .i64 0, .int .i64 0, .int .i64 0, .int .i64 0, .int .i64 0] 27))) (o : Nat), z.val.frozen? ⟨w.heap.size + 1, o, none⟩ = ((w.alloc (.cells #[.int .u8 a, .int .u8 b, .int .u8 c] 22)).alloc (.cells #[.int .i64 0, .int .i64 0, .int .i64 0, .int .i64 0, .int .i64 0] 27)).frozen? ⟨w.heap.size + 1, o, none⟩ := fun z o => z.frz (by simp <;> omega)
  refine wp_region_later_tail 14 (Below.refl _ _) (by kernel_rfl) (by kernel_rfl) ?_
  simp only [List.take_succ_cons, List.take_zero, List.drop_succ_cons, List.drop_zero]
  repeat (go_big_quiet_step (fail))
  refine wpQuiet_nil ?_
  intro _ hw'
  obtain ⟨y0, hw''⟩ := hw'
  subst hw''
  go_wp2
  (try simp only [Exit.inBlock, Exit.then])
  refine bodyPost_ret (v := lim (a + 1) (b % (a + 1) + 1) (c % (a + 1) + 1) 0 0) (by simp [results, Try.results13, go_sem, hl1]) rfl ?_
  exact ⟨rfl, ((((((box2 y0.ok).setCell (by simp <;> omega) _).setCell (by simp <;> omega) _).setCell (by simp <;> omega) _).setCell (by simp <;> omega) _).setCell (by simp <;> omega) _)⟩
end Go.Proofs.Ytdcclpdnnhaeoaa
