import Derived.Test.YteinfhfapelegaaWg
import Derived.Test.YteinfhfapelegaaFresh
import Derived.Deep.DeepCutAuto
import Derived.Test.YteinfhfapelegaaQuiet
namespace Go.Proofs.Yteinfhfapelegaa.fixedPoints
open Go.RowKit
set_option linter.unusedVariables false
theorem run_alloc30 (ρ : Operand → Value) (d : Option Tmp) (t : TypeId) (p : String) (af : Array Edge) (gd : Option (Nat × Bool)) : ∀ w, (execOp ρ ⟨d, .alloc 30, t, p, af, gd⟩).run Try.prog w = .ok (.value (.pointer (some ⟨w.heap.size, 0, none⟩))) (w.alloc (.cells #[.int .i64 0, .int .i64 0] 30)) := fun _ => by kernel_rfl
set_option maxHeartbeats 4000000 in
set_option maxRecDepth 100000 in
theorem core (x y u v X Y U V D LP LQ : Int) (X1 : -1048576 ≤ X) (X2 : X ≤ 1048576) (Y1 : -1048576 ≤ Y) (Y2 : Y ≤ 1048576) (U1 : -1048576 ≤ U) (U2 : U ≤ 1048576) (V1 : -1048576 ≤ V) (V2 : V ≤ 1048576)
    (HD : Hid (∀ w, Calls Try.prog 14 #[pt X Y, pt U V] w fun e w' => e = .returned (.int .i64 D) ∧ Below w.heap.size w w'))
    (HD2 : Hid (∀ w, Calls Try.prog 14 #[pt U V, pt X Y] w fun e w' => e = .returned (.int .i64 D) ∧ Below w.heap.size w w'))
    (HL : Hid (∀ w, Calls Try.prog 15 #[pt X Y] w fun e w' => e = .returned (.int .i64 LP) ∧ Below w.heap.size w w'))
    (HL2 : Hid (∀ w, Calls Try.prog 15 #[pt U V] w fun e w' => e = .returned (.int .i64 LQ) ∧ Below w.heap.size w w'))
    (HR : Hid (∀ w, Calls Try.prog 21 #[pt X Y, pt U V] w fun e w' => e = .returned (.int .i64 D) ∧ Below w.heap.size w w'))
    (HRL : Hid (∀ w, Calls Try.prog 22 #[pt X Y] w fun e w' => e = .returned (.int .i64 LP) ∧ Below w.heap.size w w'))
    (HDot : Hid (∀ w, Calls Try.prog 23 #[pt X Y, pt U V] w fun e w' => e = .returned (.int .i64 (X * U + Y * V)) ∧ Below w.heap.size w w'))
    (HRDot : Hid (∀ w, Calls Try.prog 24 #[pt X Y, pt U V] w fun e w' => e = .returned (.int .i64 (X * U + Y * V)) ∧ Below w.heap.size w w'))
    (HA : Hid (∀ w, Calls Try.prog 16 #[pt (X - U) (Y - V), pt U V] w fun e w' => e = .returned (pt X Y) ∧ Below w.heap.size w w'))
    (HP1 : Hid (∀ w, Calls Try.prog 13 #[.int .i32 x, .int .i32 y] w fun e w' => e = .returned (pt X Y) ∧ Below w.heap.size w w'))
    (HP2 : Hid (∀ w, Calls Try.prog 13 #[.int .i32 u, .int .i32 v] w fun e w' => e = .returned (pt U V) ∧ Below w.heap.size w w'))
    (lp0 : 0 ≤ LP) (lp1 : LP ≤ 3037000499) (lq0 : 0 ≤ LQ) (lq1 : LQ ≤ 3037000499) (tri : D ≤ LP + LQ + 1) (hx1 : -2147483648 ≤ x) (hx2 : x ≤ 2147483647) (hy1 : -2147483648 ≤ y) (hy2 : y ≤ 2147483647) (hu1 : -2147483648 ≤ u) (hu2 : u ≤ 2147483647) (hv1 : -2147483648 ≤ v) (hv2 : v ≤ 2147483647) (w : World) : Calls Try.prog 5 #[.agg #[.int .i32 x, .int .i32 y], .agg #[.int .i32 u, .int .i32 v]] w fun e w' => e = .returned (.bool true) ∧ Below w.heap.size w w' := by
  go_enter Try.func5, Try.ntmps5
  go_upto_region 1 with fail
  go_cut [5, 6] (fun s5 s6 wx => ∃ g h : Nat, s5 = .pointer (some ⟨g, 0, none⟩) ∧ s6 = .pointer (some ⟨h, 0, none⟩) ∧ g < wx.heap.size ∧ h < wx.heap.size ∧ wx.cell? ⟨g, 0, none⟩ = some (.int .i64 X) ∧ wx.cell? ⟨g, 1, none⟩ = some (.int .i64 Y) ∧ wx.cell? ⟨h, 0, none⟩ = some (.int .i64 U) ∧ wx.cell? ⟨h, 1, none⟩ = some (.int .i64 V) ∧ Below ((w.alloc (.cells #[.int .i32 x, .int .i32 y] 28)).alloc (.cells #[.int .i32 u, .int .i32 v] 28)).heap.size ((w.alloc (.cells #[.int .i32 x, .int .i32 y] 28)).alloc (.cells #[.int .i32 u, .int .i32 v] 28)) wx)
  case first =>
    refine wp_region_fresh 10 12 (fun _ => .cells #[.int .i64 0, .int .i64 0] 30) (by kernel_rfl) (by kernel_rfl) (by omega) (by kernel_rfl) ?_
    apply Exists.intro
    refine ⟨fun v1 kb1 => ?_, ?_⟩
    · have hk1 : ∀ (z : Later v1) (o : Nat), z.val.cell? ⟨w.heap.size, o, none⟩ = ((w.alloc (.cells #[.int .i32 x, .int .i32 y] 28)).alloc (.cells #[.int .i32 u, .int .i32 v] 28)).cell? ⟨w.heap.size, o, none⟩ := fun z o => (z.cell (by have := kb1.size; simp at this; omega)).trans (kb1.cell (by simp; omega))
      have hk2 : ∀ (z : Later v1) (o : Nat), z.val.cell? ⟨w.heap.size + 1, o, none⟩ = ((w.alloc (.cells #[.int .i32 x, .int .i32 y] 28)).alloc (.cells #[.int .i32 u, .int .i32 v] 28)).cell? ⟨w.heap.size + 1, o, none⟩ := fun z o => (z.cell (by have := kb1.size; simp at this; omega)).trans (kb1.cell (by simp))
      simp only [List.take_succ_cons, List.take_zero]
      repeat (go_big_quiet_step ((first
        | (go_at_call 13; with_reducible exact calls_later (HP1.out _))
        | (go_at_call 13; with_reducible exact calls_later (HP2.out _)))))
      exact wpQuiet_nil rfl
    · simp only [List.take_succ_cons, List.take_zero, List.drop_succ_cons, List.drop_zero]
      refine wpHead_new (by decide) rfl (run_alloc30 _ _ _ _ _ _) (fun g hg e1 => ?_)
      refine wpHead_new (by decide) rfl (run_alloc30 _ _ _ _ _ _) (fun h hh e2 => ?_)
      intro w' hS
      obtain ⟨hne, _⟩ := upd_none e2
      have b1 := (hS.own g _ (by rw [upd_ne (Ne.symm hne), upd_same])).2
      have b2 := (hS.own h _ upd_same).2
      have g1 := hS.lt (g := g) (by rw [upd_ne (Ne.symm hne), upd_same])
      have g2 := hS.lt (g := h) upd_same
      obtain ⟨c1, f1⟩ := block_cells b1
      obtain ⟨c2, f2⟩ := block_cells b2
      have hbb := hS.below
      have q1 := c1 0
      have q2 := c1 1
      have q3 := c2 0
      have q4 := c2 1
      simp only [List.getElem?_toArray, List.getElem?_cons_zero, List.getElem?_cons_succ] at q1 q2 q3 q4
      clear c1 c2 b1 b2 hS e1 e2
      simp only [Act.put, List.setIfInBounds_toArray, List.set_cons_zero, List.set_cons_succ]
      go_wp2
      go_meet
      case rel =>
        have hne' : g ≠ h := Ne.symm hne
        refine ⟨g, h, rfl, rfl, by simpa [World.setCell] using g1, by simpa [World.setCell] using g2, ?_, ?_, ?_, ?_, ?_⟩
        · go_simp
        · go_simp
        · go_simp
        · go_simp
        · exact (((hbb.setCell hg _).setCell hg _).setCell hh _).setCell hh _
  case rest =>
    obtain ⟨g, h, rfl, rfl, hg, hh, c1, c2, c3, c4, hb⟩ := hcut
    go_wp2_with (first | (go_at_call 14; (with_reducible refine (HD.out _).mono ?_); rintro e w2 ⟨rfl, hb2⟩; obtain ⟨hc2, hf2⟩ := bcell hb2))
    have d0 : decide (LP + LQ + 1 < D) = false := decide_eq_false (by omega)
    have hl1 : ∀ (z : Later w2) (o : Nat), z.val.cell? ⟨g, o, none⟩ = wc.cell? ⟨g, o, none⟩ := fun z o => (z.cell (by have := hb2.size; omega)).trans (hc2 _ _ hg)
    have hl2 : ∀ (z : Later w2) (o : Nat), z.val.cell? ⟨h, o, none⟩ = wc.cell? ⟨h, o, none⟩ := fun z o => (z.cell (by have := hb2.size; omega)).trans (hc2 _ _ hh)
    refine wp_region_later (Below.refl _ _) (by kernel_rfl) (by kernel_rfl) ?_
    repeat (go_big_quiet_step ((first
      | (go_at_call 14; with_reducible exact calls_later (HD2.out _))
      | (go_at_call 15; with_reducible exact calls_later (HL.out _))
      | (go_at_call 15; with_reducible exact calls_later (HL2.out _))
      | (go_at_call 17; exact calls_later (sub_any _ _ _ _ (by omega) (by omega) (by omega) (by omega) (by omega) (by omega) (by omega) (by omega) _))
      | (go_at_call 16; with_reducible exact calls_later (HA.out _)))))
    refine wpQuiet_nil ?_
    intro _ hw'
    obtain ⟨y1, hw''⟩ := hw'
    subst hw''
    have hz1 : g < y1.val.heap.size := by have := y1.size; have := hb2.size; omega
    have hz2 : h < y1.val.heap.size := by have := y1.size; have := hb2.size; omega
    have e1 : y1.val.cell? ⟨g, 0, none⟩ = some (.int .i64 X) := (hl1 y1 0).trans c1
    have e2 : y1.val.cell? ⟨g, 1, none⟩ = some (.int .i64 Y) := (hl1 y1 1).trans c2
    have e3 : y1.val.cell? ⟨h, 0, none⟩ = some (.int .i64 U) := (hl2 y1 0).trans c3
    have e4 : y1.val.cell? ⟨h, 1, none⟩ = some (.int .i64 V) := (hl2 y1 1).trans c4
    go_upto_region 5 with fail
    go_cut [8, 9] (fun s8 s9 wx => ∃ g2 h2 : Nat, s8 = .pointer (some ⟨g2, 0, none⟩) ∧ s9 = .pointer (some ⟨h2, 0, none⟩) ∧ g2 < wx.heap.size ∧ h2 < wx.heap.size ∧ wx.cell? ⟨g2, 0, none⟩ = some (.int .i64 (x * 512)) ∧ wx.cell? ⟨g2, 1, none⟩ = some (.int .i64 (y * 512)) ∧ wx.cell? ⟨h2, 0, none⟩ = some (.int .i64 (u * 512)) ∧ wx.cell? ⟨h2, 1, none⟩ = some (.int .i64 (v * 512)) ∧ Below y1.val.heap.size y1.val wx)
    case first =>
      have q1 : w.heap.size + 1 < wc.heap.size := by have := hb.size; simp at this; omega
      have q2 : wc.heap.size ≤ w2.heap.size := hb2.size
      have q3 : w2.heap.size ≤ y1.val.heap.size := y1.size
      clear d0
      refine wp_region_fresh 10 12 (fun _ => .cells #[.int .i64 0, .int .i64 0] 30) (by kernel_rfl) (by kernel_rfl) (by omega) (by kernel_rfl) ?_
      apply Exists.intro
      refine ⟨fun v1 kb1 => ?_, ?_⟩
      · have hk1 : ∀ (z : Later v1) (o : Nat), z.val.cell? ⟨w.heap.size, o, none⟩ = ((w.alloc (.cells #[.int .i32 x, .int .i32 y] 28)).alloc (.cells #[.int .i32 u, .int .i32 v] 28)).cell? ⟨w.heap.size, o, none⟩ := fun z o => (z.cell (by have := kb1.size; omega)).trans ((kb1.cell (by dsimp only; omega)).trans ((y1.cell (by omega)).trans ((hb2.cell (by dsimp only; omega)).trans (hb.cell (by simp; omega)))))
        have hk2 : ∀ (z : Later v1) (o : Nat), z.val.cell? ⟨w.heap.size + 1, o, none⟩ = ((w.alloc (.cells #[.int .i32 x, .int .i32 y] 28)).alloc (.cells #[.int .i32 u, .int .i32 v] 28)).cell? ⟨w.heap.size + 1, o, none⟩ := fun z o => (z.cell (by have := kb1.size; omega)).trans ((kb1.cell (by dsimp only; omega)).trans ((y1.cell (by omega)).trans ((hb2.cell (by dsimp only; omega)).trans (hb.cell (by simp)))))
        simp only [List.take_succ_cons, List.take_zero]
        repeat (go_big_quiet_step ((first
          | (go_at_call 18; with_reducible exact calls_later (far_any x y hx1 hx2 hy1 hy2 _))
          | (go_at_call 18; with_reducible exact calls_later (far_any u v hu1 hu2 hv1 hv2 _)))))
        exact wpQuiet_nil rfl
      · simp only [List.take_succ_cons, List.take_zero, List.drop_succ_cons, List.drop_zero]
        refine wpHead_new (by decide) rfl (run_alloc30 _ _ _ _ _ _) (fun g hg e1 => ?_)
        refine wpHead_new (by decide) rfl (run_alloc30 _ _ _ _ _ _) (fun h hh e2 => ?_)
        intro w' hS
        obtain ⟨hne, _⟩ := upd_none e2
        have b1 := (hS.own g _ (by rw [upd_ne (Ne.symm hne), upd_same])).2
        have b2 := (hS.own h _ upd_same).2
        have g1 := hS.lt (g := g) (by rw [upd_ne (Ne.symm hne), upd_same])
        have g2 := hS.lt (g := h) upd_same
        obtain ⟨c1, f1⟩ := block_cells b1
        obtain ⟨c2, f2⟩ := block_cells b2
        have hbb := hS.below
        have q1 := c1 0
        have q2 := c1 1
        have q3 := c2 0
        have q4 := c2 1
        simp only [List.getElem?_toArray, List.getElem?_cons_zero, List.getElem?_cons_succ] at q1 q2 q3 q4
        clear c1 c2 b1 b2 hS e1 e2
        simp only [Act.put, List.setIfInBounds_toArray, List.set_cons_zero, List.set_cons_succ]
        go_wp2
        go_meet
        case rel =>
          have hne' : g ≠ h := Ne.symm hne
          refine ⟨g, h, rfl, rfl, by simpa [World.setCell] using g1, by simpa [World.setCell] using g2, ?_, ?_, ?_, ?_, ?_⟩
          · go_simp
          · go_simp
          · go_simp
          · go_simp
          · exact (((hbb.setCell hg _).setCell hg _).setCell hh _).setCell hh _
    case rest =>
      obtain ⟨g2, h2, rfl, rfl, hg2, hh2, d1, d2, d3, d4, hb3⟩ := hcut
      have hn1 : ∀ (z : Later wc) (o : Nat), z.val.cell? ⟨g2, o, none⟩ = wc.cell? ⟨g2, o, none⟩ := fun z o => z.cell hg2
      have hn2 : ∀ (z : Later wc) (o : Nat), z.val.cell? ⟨h2, o, none⟩ = wc.cell? ⟨h2, o, none⟩ := fun z o => z.cell hh2
      go_wp2_with fail
      refine wp_region_later (Below.refl _ _) (by kernel_rfl) (by kernel_rfl) ?_
      repeat (go_big_quiet_step ((first
        | (go_at_call 16; exact calls_later (add_any _ _ _ _ (by omega) (by omega) (by omega) (by omega) (by omega) (by omega) (by omega) (by omega) _))
        | (go_at_call 17; exact calls_later (sub_any _ _ _ _ (by omega) (by omega) (by omega) (by omega) (by omega) (by omega) (by omega) (by omega) _))
        | (go_at_call 19; exact calls_later (radd_any _ _ _ _ (by omega) (by omega) (by omega) (by omega) (by omega) (by omega) (by omega) (by omega) _))
        | (go_at_call 20; exact calls_later (rsub_any _ _ _ _ (by omega) (by omega) (by omega) (by omega) (by omega) (by omega) (by omega) (by omega) _)))))
      refine wpQuiet_nil ?_
      intro _ hw'
      obtain ⟨y2, hw''⟩ := hw'
      subst hw''
      have hk1 : ∀ (z : Later y2.val) (o : Nat), z.val.cell? ⟨g, o, none⟩ = y1.val.cell? ⟨g, o, none⟩ := fun z o => (z.cell (by have := y2.size; have := hb3.size; omega)).trans ((y2.cell (by have := hb3.size; omega)).trans (hb3.cell hz1))
      have hk2 : ∀ (z : Later y2.val) (o : Nat), z.val.cell? ⟨h, o, none⟩ = y1.val.cell? ⟨h, o, none⟩ := fun z o => (z.cell (by have := y2.size; have := hb3.size; omega)).trans ((y2.cell (by have := hb3.size; omega)).trans (hb3.cell hz2))
      go_wp2_with fail
      refine wp_region_later (Below.refl _ _) (by kernel_rfl) (by kernel_rfl) ?_
      repeat (go_big_quiet_step ((first
        | (go_at_call 21; with_reducible exact calls_later (HR.out _))
        | (go_at_call 15; with_reducible exact calls_later (HL.out _))
        | (go_at_call 22; with_reducible exact calls_later (HRL.out _))
        | (go_at_call 16; exact calls_later (add_any _ _ _ _ (by omega) (by omega) (by omega) (by omega) (by omega) (by omega) (by omega) (by omega) _))
        | (go_at_call 17; exact calls_later (sub_any _ _ _ _ (by omega) (by omega) (by omega) (by omega) (by omega) (by omega) (by omega) (by omega) _))
        | (go_at_call 19; exact calls_later (radd_any _ _ _ _ (by omega) (by omega) (by omega) (by omega) (by omega) (by omega) (by omega) (by omega) _))
        | (go_at_call 20; exact calls_later (rsub_any _ _ _ _ (by omega) (by omega) (by omega) (by omega) (by omega) (by omega) (by omega) (by omega) _))
        | (go_at_call 23; with_reducible exact calls_later (HDot.out _))
        | (go_at_call 24; with_reducible exact calls_later (HRDot.out _))
        | (go_at_call 12; exact calls_later (awake_any _)))))
      refine wpQuiet_nil ?_
      intro _ hw'
      obtain ⟨y3, hw''⟩ := hw'
      subst hw''
      go_wp2_with fail
      go_ret
      exact ⟨rfl, below_then (below_then (below_then (below_then (below_then (box2 hb) hb2) y1.ok) hb3) y2.ok) y3.ok⟩
end Go.Proofs.Yteinfhfapelegaa.fixedPoints
