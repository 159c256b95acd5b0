/- Walks: the examples of the chapter. -/
import Derived.Test.YthfpdlkeagoamaaWk
import Derived.Test.YthfpdlkeagoamaaQuiet
namespace Go.Proofs.Ythfpdlkeagoamaa
open Go.RowKit
set_option linter.unusedVariables false
theorem step_a (w : World) : Calls Try.prog 15 #[mo 0 0 0 0, pt 300 400, lim 100 30 40 0 0] w fun e w' => e = .returned (mo 18 24 18 24) ∧ Below w.heap.size w w' := by
  have := step_any 0 0 0 0 300 400 100 30 40 0 0 w
  rw [show nPx 0 0 0 0 300 400 100 30 40 0 0 = 18 from by kernel_rfl, show nPy 0 0 0 0 300 400 100 30 40 0 0 = 24 from by kernel_rfl, show nVx 0 0 0 0 300 400 100 30 40 0 0 = 18 from by kernel_rfl, show nVy 0 0 0 0 300 400 100 30 40 0 0 = 24 from by kernel_rfl] at this
  exact this
theorem step_c (w : World) : Calls Try.prog 15 #[mo 0 0 100 0, pt 0 100, lim 100 30 40 0 0] w fun e w' => e = .returned (mo 79 21 79 21) ∧ Below w.heap.size w w' := by
  have := step_any 0 0 100 0 0 100 100 30 40 0 0 w
  rw [show nPx 0 0 100 0 0 100 100 30 40 0 0 = 79 from by kernel_rfl, show nPy 0 0 100 0 0 100 100 30 40 0 0 = 21 from by kernel_rfl, show nVx 0 0 100 0 0 100 100 30 40 0 0 = 79 from by kernel_rfl, show nVy 0 0 100 0 0 100 100 30 40 0 0 = 21 from by kernel_rfl] at this
  exact this
theorem stop_b (w : World) : Calls Try.prog 20 #[mo 0 0 60 80, lim 100 30 40 0 0] w fun e w' => ∃ g cap, e = .returned (.slice (some ⟨g, 0, none⟩) 3 cap) ∧ g < w'.heap.size ∧ w.heap.size ≤ g ∧ w'.cell? ⟨g, 0, none⟩ = some (.int .i64 36) ∧ w'.cell? ⟨g, 1, none⟩ = some (.int .i64 48) ∧ w'.cell? ⟨g, 2, none⟩ = some (.int .i64 36) ∧ w'.cell? ⟨g, 3, none⟩ = some (.int .i64 48) ∧ w'.cell? ⟨g, 4, none⟩ = some (.int .i64 48) ∧ w'.cell? ⟨g, 5, none⟩ = some (.int .i64 64) ∧ w'.cell? ⟨g, 6, none⟩ = some (.int .i64 12) ∧ w'.cell? ⟨g, 7, none⟩ = some (.int .i64 16) ∧ w'.cell? ⟨g, 8, none⟩ = some (.int .i64 48) ∧ w'.cell? ⟨g, 9, none⟩ = some (.int .i64 64) ∧ w'.cell? ⟨g, 10, none⟩ = some (.int .i64 0) ∧ w'.cell? ⟨g, 11, none⟩ = some (.int .i64 0) ∧ Below w.heap.size w w' := by
  refine (stop_yes 0 0 60 80 100 30 40 0 0 (by kernel_rfl) w).mono fun e w' ⟨v, he, hown, hb⟩ => ?_
  rw [show stopL 40 4097 ⟨0, 0, 60, 80⟩ = [⟨36, 48, 36, 48⟩, ⟨48, 64, 12, 16⟩, ⟨48, 64, 0, 0⟩] from by kernel_rfl] at hown
  obtain ⟨g, cap, rfl, hgb, hgl⟩ := hown.form (by decide)
  have k := fun j h => hown.cellAt j h
  refine ⟨g, cap, he, hgl, by omega, (k 0 (by decide)).trans rfl, (k 1 (by decide)).trans rfl, (k 2 (by decide)).trans rfl, (k 3 (by decide)).trans rfl, (k 4 (by decide)).trans rfl, (k 5 (by decide)).trans rfl, (k 6 (by decide)).trans rfl, (k 7 (by decide)).trans rfl, (k 8 (by decide)).trans rfl, (k 9 (by decide)).trans rfl, (k 10 (by decide)).trans rfl, (k 11 (by decide)).trans rfl, hb⟩
theorem check_a (w : World) : Calls Try.prog 10 #[lim 100 30 40 0 0] w fun e w' => e = .returned (.int .i64 0) ∧ Below w.heap.size w w' := by
  have := check_any 100 30 40 0 0 w
  rw [show chkE 100 30 40 0 0 = 0 from by kernel_rfl] at this
  exact this
theorem check_b (w : World) : Calls Try.prog 10 #[lim 0 0 0 0 0] w fun e w' => e = .returned (.int .i64 4) ∧ Below w.heap.size w w' := by
  have := check_any 0 0 0 0 0 w
  rw [show chkE 0 0 0 0 0 = 4 from by kernel_rfl] at this
  exact this
theorem valid_a (w : World) : Calls Try.prog 12 #[mo 18 24 18 24, lim 100 30 40 0 0] w fun e w' => e = .returned (.bool true) ∧ Below w.heap.size w w' := valid_of (by kernel_rfl) w
set_option maxRecDepth 100000 in
set_option maxHeartbeats 4000000 in
theorem awake_any (w : World) : Calls Try.prog 14 #[] w fun e w' => e = .returned (.bool true) ∧ Below w.heap.size w w' := by
  have HA := hid step_a
  have HC := hid step_c
  have HS := hid stop_b
  go_enter Try.func14, Try.ntmps14
  go_upto_region 5 with (first
    | (go_at_call 15; (with_reducible refine (HA.out _).mono ?_); rintro e w2 ⟨rfl, hb2⟩; obtain ⟨hc2, hf2⟩ := bcell hb2; have hz2 : w.heap.size < w2.heap.size := (by have := hb2.size; simp at this; omega))
    | (go_at_call 15; (with_reducible refine (HC.out _).mono ?_); rintro e w4 ⟨rfl, hb4⟩; obtain ⟨hc4, hf4⟩ := bcell hb4; have hz4 := hb4.size)
    | (go_at_call 20; (with_reducible refine (HS.out _).mono ?_); rintro e w3 ⟨g, cap, rfl, hgl, hgb, k0, k1, k2, k3, k4, k5, k6, k7, k8, k9, k10, k11, hb3⟩; obtain ⟨hc3, hf3⟩ := bcell hb3; have hz3 : w2.heap.size < w3.heap.size := (by have := hb3.size; simp at this; omega); have hgne : g ≠ w2.heap.size := (by simp at hgb; omega)))
  have hg4 : g < w4.heap.size := by omega
  have r1 : ∀ (z : Later (w4.alloc (.cells #[.int .i64 79, .int .i64 21, .int .i64 79, .int .i64 21] 25))) (o : Nat), z.val.cell? ⟨w.heap.size, o, none⟩ = (w.alloc (.cells #[.int .i64 100, .int .i64 30, .int .i64 40, .int .i64 0, .int .i64 0] 27)).cell? ⟨w.heap.size, o, none⟩ := fun z o =>
    (z.cell (by rw [alloc_size]; omega)).trans ((World.cell?_alloc_lt _ _ _ (by dsimp only; omega)).trans ((hc4 _ _ (by omega)).trans ((hc3 _ _ (by rw [alloc_size]; omega)).trans ((World.cell?_alloc_lt _ _ _ (by dsimp only; omega)).trans (hc2 _ _ (by rw [alloc_size]; omega))))))
  have r2 : ∀ (z : Later (w4.alloc (.cells #[.int .i64 79, .int .i64 21, .int .i64 79, .int .i64 21] 25))) (o : Nat), z.val.cell? ⟨w2.heap.size, o, none⟩ = (w2.alloc (.cells #[.int .i64 18, .int .i64 24, .int .i64 18, .int .i64 24] 25)).cell? ⟨w2.heap.size, o, none⟩ := fun z o =>
    (z.cell (by rw [alloc_size]; omega)).trans ((World.cell?_alloc_lt _ _ _ (by dsimp only; omega)).trans ((hc4 _ _ (by omega)).trans (hc3 _ _ (by rw [alloc_size]; omega))))
  have r4 : ∀ (z : Later (w4.alloc (.cells #[.int .i64 79, .int .i64 21, .int .i64 79, .int .i64 21] 25))) (o : Nat), z.val.cell? ⟨w4.heap.size, o, none⟩ = (w4.alloc (.cells #[.int .i64 79, .int .i64 21, .int .i64 79, .int .i64 21] 25)).cell? ⟨w4.heap.size, o, none⟩ := fun z o => z.cell (by rw [alloc_size]; omega)
  have rg0 : ∀ (z : Later (w4.alloc (.cells #[.int .i64 79, .int .i64 21, .int .i64 79, .int .i64 21] 25))), z.val.cell? ⟨g, 0, none⟩ = some (.int .i64 36) := fun z => (z.cell (by rw [alloc_size]; omega)).trans ((World.cell?_alloc_lt _ _ _ hg4).trans ((hc4 _ _ hgl).trans k0))
  have rg1 : ∀ (z : Later (w4.alloc (.cells #[.int .i64 79, .int .i64 21, .int .i64 79, .int .i64 21] 25))), z.val.cell? ⟨g, 1, none⟩ = some (.int .i64 48) := fun z => (z.cell (by rw [alloc_size]; omega)).trans ((World.cell?_alloc_lt _ _ _ hg4).trans ((hc4 _ _ hgl).trans k1))
  have rg2 : ∀ (z : Later (w4.alloc (.cells #[.int .i64 79, .int .i64 21, .int .i64 79, .int .i64 21] 25))), z.val.cell? ⟨g, 2, none⟩ = some (.int .i64 36) := fun z => (z.cell (by rw [alloc_size]; omega)).trans ((World.cell?_alloc_lt _ _ _ hg4).trans ((hc4 _ _ hgl).trans k2))
  have rg3 : ∀ (z : Later (w4.alloc (.cells #[.int .i64 79, .int .i64 21, .int .i64 79, .int .i64 21] 25))), z.val.cell? ⟨g, 3, none⟩ = some (.int .i64 48) := fun z => (z.cell (by rw [alloc_size]; omega)).trans ((World.cell?_alloc_lt _ _ _ hg4).trans ((hc4 _ _ hgl).trans k3))
  have rg4 : ∀ (z : Later (w4.alloc (.cells #[.int .i64 79, .int .i64 21, .int .i64 79, .int .i64 21] 25))), z.val.cell? ⟨g, 4, none⟩ = some (.int .i64 48) := fun z => (z.cell (by rw [alloc_size]; omega)).trans ((World.cell?_alloc_lt _ _ _ hg4).trans ((hc4 _ _ hgl).trans k4))
  have rg5 : ∀ (z : Later (w4.alloc (.cells #[.int .i64 79, .int .i64 21, .int .i64 79, .int .i64 21] 25))), z.val.cell? ⟨g, 5, none⟩ = some (.int .i64 64) := fun z => (z.cell (by rw [alloc_size]; omega)).trans ((World.cell?_alloc_lt _ _ _ hg4).trans ((hc4 _ _ hgl).trans k5))
  have rg6 : ∀ (z : Later (w4.alloc (.cells #[.int .i64 79, .int .i64 21, .int .i64 79, .int .i64 21] 25))), z.val.cell? ⟨g, 6, none⟩ = some (.int .i64 12) := fun z => (z.cell (by rw [alloc_size]; omega)).trans ((World.cell?_alloc_lt _ _ _ hg4).trans ((hc4 _ _ hgl).trans k6))
  have rg7 : ∀ (z : Later (w4.alloc (.cells #[.int .i64 79, .int .i64 21, .int .i64 79, .int .i64 21] 25))), z.val.cell? ⟨g, 7, none⟩ = some (.int .i64 16) := fun z => (z.cell (by rw [alloc_size]; omega)).trans ((World.cell?_alloc_lt _ _ _ hg4).trans ((hc4 _ _ hgl).trans k7))
  have rg8 : ∀ (z : Later (w4.alloc (.cells #[.int .i64 79, .int .i64 21, .int .i64 79, .int .i64 21] 25))), z.val.cell? ⟨g, 8, none⟩ = some (.int .i64 48) := fun z => (z.cell (by rw [alloc_size]; omega)).trans ((World.cell?_alloc_lt _ _ _ hg4).trans ((hc4 _ _ hgl).trans k8))
  have rg9 : ∀ (z : Later (w4.alloc (.cells #[.int .i64 79, .int .i64 21, .int .i64 79, .int .i64 21] 25))), z.val.cell? ⟨g, 9, none⟩ = some (.int .i64 64) := fun z => (z.cell (by rw [alloc_size]; omega)).trans ((World.cell?_alloc_lt _ _ _ hg4).trans ((hc4 _ _ hgl).trans k9))
  have rg10 : ∀ (z : Later (w4.alloc (.cells #[.int .i64 79, .int .i64 21, .int .i64 79, .int .i64 21] 25))), z.val.cell? ⟨g, 10, none⟩ = some (.int .i64 0) := fun z => (z.cell (by rw [alloc_size]; omega)).trans ((World.cell?_alloc_lt _ _ _ hg4).trans ((hc4 _ _ hgl).trans k10))
  have rg11 : ∀ (z : Later (w4.alloc (.cells #[.int .i64 79, .int .i64 21, .int .i64 79, .int .i64 21] 25))), z.val.cell? ⟨g, 11, none⟩ = some (.int .i64 0) := fun z => (z.cell (by rw [alloc_size]; omega)).trans ((World.cell?_alloc_lt _ _ _ hg4).trans ((hc4 _ _ hgl).trans k11))
  have hB : Below w.heap.size w (w4.alloc (.cells #[.int .i64 79, .int .i64 21, .int .i64 79, .int .i64 21] 25)) := (((below_box hb2).trans ((below_box hb3).mono (by omega))).trans (hb4.mono (by omega))).alloc (by omega) _
  clear hc2 hf2 hc3 hf3 hc4 hf4 k0 k1 k2 k3 k4 k5 k6 k7 k8 k9 k10 k11
  refine wp_region_plain_later (w0 := (w4.alloc (.cells #[.int .i64 79, .int .i64 21, .int .i64 79, .int .i64 21] 25))) (Below.refl _ _) ?_
  (try simp only [List.append_eq, List.cons_append, List.nil_append])
  repeat (go_big_quiet_step ((first
    | (go_at_call 10; with_reducible exact calls_later (check_a _))
    | (go_at_call 10; with_reducible exact calls_later (check_b _))
    | (go_at_call 12; with_reducible exact calls_later (valid_a _)))))
  refine wpQuiet_nil ?_
  intro _ hw'
  obtain ⟨y0, hw''⟩ := hw'
  subst hw''
  simp only [Exit.then]
  go_wp2
  go_ret
  exact ⟨rfl, hB.trans (y0.ok.mono hB.size)⟩
end Go.Proofs.Ythfpdlkeagoamaa
