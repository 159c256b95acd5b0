import Derived.Test.YteinfhfapelegaaWg
import Derived.Deep.DeepCutAuto
import Derived.Test.YteinfhfapelegaaQuiet
namespace Go.Proofs.Yteinfhfapelegaa.fixedScales
open Go.RowKit
set_option linter.unusedVariables false
set_option maxRecDepth 100000 in
set_option maxHeartbeats 8000000 in
theorem core (x y m X Y p q L : Int) (hx1 : -2147483648 ≤ x) (hx2 : x ≤ 2147483647) (hy1 : -2147483648 ≤ y) (hy2 : y ≤ 2147483647) (eX : x.tmod 1048577 = X) (eY : y.tmod 1048577 = Y) (X1 : -1048576 ≤ X) (X2 : X ≤ 1048576) (Y1 : -1048576 ≤ Y) (Y2 : Y ≤ 1048576)
    (ep : scl (sqr X Y) X (max m 0) = p) (eq : scl (sqr X Y) Y (max m 0) = q) (f1 : Hid (0 ≤ X → 0 ≤ p ∧ p ≤ X)) (f2 : Hid (X ≤ 0 → p ≤ 0 ∧ X ≤ p)) (f3 : Hid (0 ≤ Y → 0 ≤ q ∧ q ≤ Y)) (f4 : Hid (Y ≤ 0 → q ≤ 0 ∧ Y ≤ q))
    (g1 : 0 ≤ p * p) (g2 : p * p ≤ 1099511627776) (g3 : 0 ≤ q * q) (g4 : q * q ≤ 1099511627776) (hmL : Hid ((m ≤ 0 ∧ L = 0) ∨ (0 < m ∧ m ≤ 2097152 ∧ L = m) ∨ (2097152 < m ∧ L = 2097152))) (l1 : 0 ≤ L * L) (l2 : L * L ≤ 4398046511104) (hL : p * p + q * q ≤ L * L) (hn : 0 ≤ sqr X Y) (hn2 : sqr X Y ≤ 2199023255552)
    (hlast : Hid (L * L < sqr X Y ∨ (sqr X Y ≤ L * L ∧ p = X ∧ q = Y))) (w : World) : Calls Try.prog 7 #[.int .i32 x, .int .i32 y, .int .i64 m] w fun e w' => e = .returned (.bool true) ∧ Below w.heap.size w w' := by
  go_enter Try.func7, Try.ntmps7
  go_upto_region 3 with (first
    | (go_at_call 13; refine (point_any _ _ hx1 hx2 hy1 hy2 _).mono ?_; rintro e w1 ⟨rfl, hb⟩; rw [eX, eY])
    | (go_at_call 28; refine (scale_any _ _ _ (by omega) (by omega) (by omega) (by omega) _).mono ?_; rintro e w2 ⟨rfl, hb2⟩; rw [ep, eq]; obtain ⟨hc, hf⟩ := bcell hb2))
  have hsz : w1.heap.size < w2.heap.size := by have := hb2.size; simp at this; omega
  have hl1 : ∀ (z : Later (w2.alloc (.cells #[.int .i64 p, .int .i64 q] 30))) (o : Nat), z.val.cell? ⟨w1.heap.size, o, none⟩ = (w1.alloc (.cells #[.int .i64 X, .int .i64 Y] 30)).cell? ⟨w1.heap.size, o, none⟩ := fun z o =>
    (z.cell (by simp; omega)).trans ((World.cell?_alloc_lt _ _ _ hsz).trans (hc _ _ (by simp)))
  have hl2 : ∀ (z : Later (w2.alloc (.cells #[.int .i64 p, .int .i64 q] 30))) (o : Nat), z.val.cell? ⟨w2.heap.size, o, none⟩ = (w2.alloc (.cells #[.int .i64 p, .int .i64 q] 30)).cell? ⟨w2.heap.size, o, none⟩ := fun z o => z.cell (by simp)
  have hbw : Below w.heap.size w (w2.alloc (.cells #[.int .i64 p, .int .i64 q] 30)) := (hb.trans (((Below.refl _ _).alloc (Nat.le_refl _) _).trans (hb2.mono (by simp)) |>.mono hb.size)).alloc (by have := hb.size; omega) _
  clear hc hf
  go_cut [9] (fun s9 wx => s9 = .int .i64 L ∧ wx = w2.alloc (.cells #[.int .i64 p, .int .i64 q] 30))
  case first =>
    clear hl1 hl2
    rcases hmL.out with ⟨m1, rfl⟩ | ⟨m1, m2, rfl⟩ | ⟨m1, rfl⟩
    all_goals
      go_wp2_with fail
      all_goals
        go_meet
        case rel => exact ⟨by go_num, rfl⟩
  case rest =>
    obtain ⟨rfl, rfl⟩ := hcut
    have d0 : decide (L * L < p * p + q * q) = false := decide_eq_false (by omega)
    go_wp2_with fail
    refine wp_region_later (Below.refl _ _) (by kernel_rfl) (by kernel_rfl) ?_
    repeat (go_big_quiet_step ((go_at_call 29; exact calls_later (rscale_any _ _ _ (by omega) (by omega) (by omega) (by omega) _))))
    refine wpQuiet_nil ?_
    intro _ hw'
    obtain ⟨y0, hw''⟩ := hw'
    subst hw''
    have hz1 : w1.heap.size < y0.val.heap.size := by have := y0.size; simp at this; omega
    have hz2 : w2.heap.size < y0.val.heap.size := by have := y0.size; simp at this; omega
    go_upto_region 6 with fail
    go_cut [106] (fun s wx => s = .bool false ∧ ∃ y1 : Later (w2.alloc (.cells #[.int .i64 p, .int .i64 q] 30)), wx = y1.val)
    case first =>
      clear d0 hz1 hz2 hbw hb hb2 ep eq eX eY g1 g2 g3 g4 l1 l2 hL hn hn2 hmL hlast
      have CX : (decide (0 ≤ X) = false ∧ decide (X ≤ 0) = true ∧ decide (0 < p) = false ∧ decide (p < X) = false) ∨ (decide (0 ≤ X) = true ∧ decide (p < 0) = false ∧ decide (X < p) = false ∧ decide (X ≤ 0) = true ∧ decide (0 < p) = false ∧ decide (p < X) = false) ∨ (decide (0 ≤ X) = true ∧ decide (p < 0) = false ∧ decide (X < p) = false ∧ decide (X ≤ 0) = false) := by
        have a1 := f1.out
        have a2 := f2.out
        simp only [decide_eq_true_eq, decide_eq_false_iff_not]
        omega
      have CY : (decide (0 ≤ Y) = false ∧ decide (Y ≤ 0) = true ∧ decide (0 < q) = false ∧ decide (q < Y) = false) ∨ (decide (0 ≤ Y) = true ∧ decide (q < 0) = false ∧ decide (Y < q) = false ∧ decide (Y ≤ 0) = true ∧ decide (0 < q) = false ∧ decide (q < Y) = false) ∨ (decide (0 ≤ Y) = true ∧ decide (q < 0) = false ∧ decide (Y < q) = false ∧ decide (Y ≤ 0) = false) := by
        have a1 := f3.out
        have a2 := f4.out
        simp only [decide_eq_true_eq, decide_eq_false_iff_not]
        omega
      clear f1 f2 f3 f4 X1 X2 Y1 Y2
      rcases CX with ⟨c1, c2, c3, c4⟩ | ⟨c1, c2, c3, c4, c5, c6⟩ | ⟨c1, c2, c3, c4⟩
      all_goals
        rcases CY with ⟨e1, e2, e3, e4⟩ | ⟨e1, e2, e3, e4, e5, e6⟩ | ⟨e1, e2, e3, e4⟩
        all_goals
          refine wp_region_plain_later y0.ok ?_
          simp only [List.append_eq, List.cons_append, List.nil_append]
          repeat (go_big_quiet_step (fail))
          refine wpQuiet_nil ?_
          intro _ hw'
          obtain ⟨y1, hw''⟩ := hw'
          subst hw''
          simp only [Exit.then]
          go_step
          go_meet
          case rel => exact ⟨rfl, y1, rfl⟩
    case rest =>
      clear hz1 hz2
      obtain ⟨rfl, y1, rfl⟩ := hcut
      have hz1 : w1.heap.size < y1.val.heap.size := by have := y1.size; simp at this; omega
      have hz2 : w2.heap.size < y1.val.heap.size := by have := y1.size; simp at this; omega
      rcases hlast.out with hh | ⟨hh, rfl, rfl⟩
      · have d1 : decide (L * L < sqr X Y) = true := decide_eq_true hh
        go_wp2_with (first
          | (go_at_call 30; refine (rsquare_any _ _ (by omega) (by omega) (by omega) (by omega) _).mono ?_; rintro e w4 ⟨rfl, hb4⟩; obtain ⟨hc4, hf4⟩ := bcell hb4)
          | (go_at_call 12; refine (awake_any _).mono ?_; rintro e w5 ⟨rfl, hb5⟩))
        go_ret
        exact ⟨rfl, below_then (below_then (hbw.trans (y1.ok.mono hbw.size)) hb4) hb5⟩
      · have d1 : decide (L * L < sqr p q) = false := decide_eq_false (by omega)
        go_wp2_with (first
          | (go_at_call 30; refine (rsquare_any _ _ (by omega) (by omega) (by omega) (by omega) _).mono ?_; rintro e w4 ⟨rfl, hb4⟩; obtain ⟨hc4, hf4⟩ := bcell hb4)
          | (go_at_call 12; refine (awake_any _).mono ?_; rintro e w5 ⟨rfl, hb5⟩))
        go_ret
        exact ⟨rfl, below_then (below_then (hbw.trans (y1.ok.mono hbw.size)) hb4) hb5⟩
end Go.Proofs.Yteinfhfapelegaa.fixedScales
