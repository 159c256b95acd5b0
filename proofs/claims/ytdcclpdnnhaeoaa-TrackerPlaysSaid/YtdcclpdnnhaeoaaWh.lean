/- Walks: the last waypoint, the next waypoint, the progress. -/
import Derived.Test.YtdcclpdnnhaeoaaWg
import Derived.Lib.MinMax
namespace Go.Proofs.Ytdcclpdnnhaeoaa
open Go.RowKit
set_option linter.unusedVariables false
set_option maxHeartbeats 2000000 in
theorem last_any (g g2 len cap k : Nat) (x y : Int)  (hl : 0 < len) (hlm : len ≤ 4096) (hk : k + 1 = len) (w : World) (hg : g < w.heap.size) (hg2 : g2 < w.heap.size) (h0 : w.cell? ⟨g, 0, none⟩ = some (.slice (some ⟨g2, 0, none⟩) len cap)) (h1 : w.cell? ⟨g2, k * 2, none⟩ = some (.int .i64 x)) (h2 : w.cell? ⟨g2, k * 2 + 1, none⟩ = some (.int .i64 y)) :
    Calls Try.prog 31 #[.pointer (some ⟨g, 0, none⟩)] w fun e w' => e = .returned (pt x y) ∧ Below w.heap.size w w' := by
  have hke : (len : Int) - 1 = (k : Int) := by omega
  have hlN : (len : Int) ≤ 4096 := by omega
  have hl0 : 0 < (len : Int) := by omega
  have hkI : (k : Int) < (len : Int) := by omega
  have hk0 : (0 : Int) ≤ (k : Int) := by omega
  go_enter Try.func31, Try.ntmps31
  go_wp2_with fail
  have r0 : ∀ (z : Later (w.alloc (.cells #[.int .i64 0, .int .i64 0] 34))), z.val.cell? ⟨g, 0, none⟩ = some (.slice (some ⟨g2, 0, none⟩) len cap) := fun z => (z.cell (by simp; omega)).trans ((World.cell?_alloc_lt _ _ _ hg).trans h0)
  have r1 : ∀ (z : Later (w.alloc (.cells #[.int .i64 0, .int .i64 0] 34))), z.val.cell? ⟨g2, k * 2, none⟩ = some (.int .i64 x) := fun z => (z.cell (by simp; omega)).trans ((World.cell?_alloc_lt _ _ _ hg2).trans h1)
  have r2 : ∀ (z : Later (w.alloc (.cells #[.int .i64 0, .int .i64 0] 34))), z.val.cell? ⟨g2, k * 2 + 1, none⟩ = some (.int .i64 y) := fun z => (z.cell (by simp; omega)).trans ((World.cell?_alloc_lt _ _ _ hg2).trans h2)
  have hl9 : ∀ (z : Later (w.alloc (.cells #[.int .i64 0, .int .i64 0] 34))) (o : Nat), z.val.cell? ⟨w.heap.size, o, none⟩ = (w.alloc (.cells #[.int .i64 0, .int .i64 0] 34)).cell? ⟨w.heap.size, o, none⟩ := fun z o => z.cell (by simp)
  have hz9 : ∀ (z : Later (w.alloc (.cells #[.int .i64 0, .int .i64 0] 34))) (o : Nat), z.val.frozen? ⟨w.heap.size, o, none⟩ = (w.alloc (.cells #[.int .i64 0, .int .i64 0] 34)).frozen? ⟨w.heap.size, o, none⟩ := fun z o => z.frz (by simp)
  clear h0 h1 h2
  refine wp_region_later_tail 12 (Below.refl _ _) (by kernel_rfl) (by kernel_rfl) ?_
  simp only [List.take_succ_cons, List.take_zero, List.drop_succ_cons, List.drop_zero]
  repeat (go_big_quiet_step (fail))
  refine wpQuiet_nil ?_
  intro _ hw'
  obtain ⟨y0, hw''⟩ := hw'
  subst hw''
  go_wp2
  (try simp only [Exit.inBlock, Exit.then])
  refine bodyPost_ret (v := pt x y) (by simp [results, Try.results31, go_sem, hl9]) rfl ?_
  exact ⟨rfl, (((below_box y0.ok).setCell (by simp <;> omega) _).setCell (by simp <;> omega) _)⟩
set_option maxHeartbeats 2000000 in
theorem after_any (g g2 len cap k : Nat) (x y : Int) (i : Int) (hi1 : 0 ≤ i) (hi2 : i ≤ 4096) (hl : 0 < len) (hlm : len ≤ 4096) (hk : (k : Int) = min (i + 1) ((len : Int) - 1)) (w : World) (hg : g < w.heap.size) (hg2 : g2 < w.heap.size) (h0 : w.cell? ⟨g, 0, none⟩ = some (.slice (some ⟨g2, 0, none⟩) len cap)) (h1 : w.cell? ⟨g2, k * 2, none⟩ = some (.int .i64 x)) (h2 : w.cell? ⟨g2, k * 2 + 1, none⟩ = some (.int .i64 y)) :
    Calls Try.prog 32 #[.pointer (some ⟨g, 0, none⟩), .int .i64 i] w fun e w' => e = .returned (pt x y) ∧ Below w.heap.size w w' := by
  have hkl : k < len := by omega
  have hke : min (i + 1) ((len : Int) - 1) = (k : Int) := hk.symm
  clear hk
  have hlN : (len : Int) ≤ 4096 := by omega
  have hl0 : 0 < (len : Int) := by omega
  have hkI : (k : Int) < (len : Int) := by omega
  have hk0 : (0 : Int) ≤ (k : Int) := by omega
  go_enter Try.func32, Try.ntmps32
  go_wp2_with fail
  have r0 : ∀ (z : Later (w.alloc (.cells #[.int .i64 0, .int .i64 0] 34))), z.val.cell? ⟨g, 0, none⟩ = some (.slice (some ⟨g2, 0, none⟩) len cap) := fun z => (z.cell (by simp; omega)).trans ((World.cell?_alloc_lt _ _ _ hg).trans h0)
  have r1 : ∀ (z : Later (w.alloc (.cells #[.int .i64 0, .int .i64 0] 34))), z.val.cell? ⟨g2, k * 2, none⟩ = some (.int .i64 x) := fun z => (z.cell (by simp; omega)).trans ((World.cell?_alloc_lt _ _ _ hg2).trans h1)
  have r2 : ∀ (z : Later (w.alloc (.cells #[.int .i64 0, .int .i64 0] 34))), z.val.cell? ⟨g2, k * 2 + 1, none⟩ = some (.int .i64 y) := fun z => (z.cell (by simp; omega)).trans ((World.cell?_alloc_lt _ _ _ hg2).trans h2)
  have hl9 : ∀ (z : Later (w.alloc (.cells #[.int .i64 0, .int .i64 0] 34))) (o : Nat), z.val.cell? ⟨w.heap.size, o, none⟩ = (w.alloc (.cells #[.int .i64 0, .int .i64 0] 34)).cell? ⟨w.heap.size, o, none⟩ := fun z o => z.cell (by simp)
  have hz9 : ∀ (z : Later (w.alloc (.cells #[.int .i64 0, .int .i64 0] 34))) (o : Nat), z.val.frozen? ⟨w.heap.size, o, none⟩ = (w.alloc (.cells #[.int .i64 0, .int .i64 0] 34)).frozen? ⟨w.heap.size, o, none⟩ := fun z o => z.frz (by simp)
  clear h0 h1 h2
  refine wp_region_later_tail 15 (Below.refl _ _) (by kernel_rfl) (by kernel_rfl) ?_
  simp only [List.take_succ_cons, List.take_zero, List.drop_succ_cons, List.drop_zero]
  repeat (go_big_quiet_step (fail))
  refine wpQuiet_nil ?_
  intro _ hw'
  obtain ⟨y0, hw''⟩ := hw'
  subst hw''
  go_wp2
  (try simp only [Exit.inBlock, Exit.then])
  refine bodyPost_ret (v := pt x y) (by simp [results, Try.results32, go_sem, hl9]) rfl ?_
  exact ⟨rfl, (((below_box y0.ok).setCell (by simp <;> omega) _).setCell (by simp <;> omega) _)⟩
theorem progress_any (g : Nat) (pr : Int) (w : World) (h0 : w.cell? ⟨g, 8, none⟩ = some (.int .i64 pr)) : Calls Try.prog 19 #[.pointer (some ⟨g, 0, none⟩)] w fun e w' => e = .returned (.int .i64 pr) ∧ w = w' := by
  go_enter Try.func19, Try.ntmps19
  go_wp2_with fail
  go_ret
  exact ⟨rfl, rfl⟩
end Go.Proofs.Ytdcclpdnnhaeoaa
