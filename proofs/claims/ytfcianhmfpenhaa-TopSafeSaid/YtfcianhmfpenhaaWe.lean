/- Walks: the velocity that follows a wanted one; Step. -/
import Derived.Test.YtfcianhmfpenhaaWd
import Derived.Test.YtfcianhmfpenhaaFresh
import Derived.Deep.DeepCutAuto
namespace Go.Proofs.Ytfcianhmfpenhaa
open Go.RowKit
set_option linter.unusedVariables false
set_option linter.unusedSimpArgs false
theorem run_alloc23 (ρ : Operand → Value) (d : Option Tmp) (t : TypeId) (p : String) (af : Array Edge) (gd : Option (Nat × Bool)) : ∀ w, (execOp ρ ⟨d, .alloc 35, t, p, af, gd⟩).run Try.prog w = .ok (.value (.pointer (some ⟨w.heap.size, 0, none⟩))) (w.alloc (.cells #[.int .i64 0, .int .i64 0] 35)) := fun _ => by kernel_rfl
theorem run_alloc25 (ρ : Operand → Value) (d : Option Tmp) (t : TypeId) (p : String) (af : Array Edge) (gd : Option (Nat × Bool)) : ∀ w, (execOp ρ ⟨d, .alloc 37, t, p, af, gd⟩).run Try.prog w = .ok (.value (.pointer (some ⟨w.heap.size, 0, none⟩))) (w.alloc (.cells #[.int .i64 0, .int .i64 0, .int .i64 0, .int .i64 0] 37)) := fun _ => by kernel_rfl
theorem scale_w {wx wy S : Int} (hS : 0 ≤ S) (w : World) : Calls Try.prog 42 #[pt (clp wx) (clp wy), .int .i64 S] w fun e w' => e = .returned (pt (wX wx wy S) (wY wx wy S)) ∧ Below w.heap.size w w' := by
  have a := clp_range wx
  have b := clp_range wy
  have := scale_any (clp wx) (clp wy) S (by omega) (by omega) (by omega) (by omega) w
  unfold wX wY
  rw [show max S 0 = S from by omega] at this
  exact this
theorem scale_d {vx vy wx wy S A : Int} (hS : 0 ≤ S) (hA : 0 ≤ A) (h1 : -4096 ≤ vx) (h2 : vx ≤ 4096) (h3 : -4096 ≤ vy) (h4 : vy ≤ 4096) (w : World) : Calls Try.prog 42 #[pt (wX wx wy S - vx) (wY wx wy S - vy), .int .i64 A] w fun e w' => e = .returned (pt (dX vx vy wx wy S A) (dY vx vy wx wy S A)) ∧ Below w.heap.size w w' := by
  have a := wXY_range wx wy S hS
  have := scale_any (wX wx wy S - vx) (wY wx wy S - vy) A (by omega) (by omega) (by omega) (by omega) w
  unfold dX dY
  rw [show max A 0 = A from by omega] at this
  exact this
theorem half_one (d : Int) : (d.tdiv 2).natAbs ≤ d.natAbs ∧ (d ≠ 0 → (d.tdiv 2).natAbs < d.natAbs) := by
  have := tdiv2 d
  rcases Int.lt_or_le d 0 with h | h
  · have := this.2 (by omega); omega
  · have := this.1 h; omega
theorem half_lt {dx dy : Int} (h : ¬ (dx = 0 ∧ dy = 0)) : (dx.tdiv 2).natAbs + (dy.tdiv 2).natAbs < dx.natAbs + dy.natAbs := by
  have a := half_one dx
  have b := half_one dy
  by_cases h0 : dx = 0
  · have := b.2 (fun h1 => h ⟨h0, h1⟩); omega
  · have := a.2 h0; omega
/-- what the loop's measure looks at -/
def mcell (w : World) (g : Nat) : Nat := (intOf ((w.cell? ⟨g, 0, none⟩).getD undef)).natAbs + (intOf ((w.cell? ⟨g, 1, none⟩).getD undef)).natAbs
set_option maxHeartbeats 4000000 in
theorem wanted_any (S A B H M vx vy wx wy : Int) (s1 : 1 ≤ S) (s2 : S ≤ 4096) (a1 : 1 ≤ A) (a2 : A ≤ 4096) (h1 : -4096 ≤ vx) (h2 : vx ≤ 4096) (h3 : -4096 ≤ vy) (h4 : vy ≤ 4096) (w : World) :
    Calls Try.prog 33 #[lim S A B H M, pt vx vy, pt wx wy] w fun e w' => e = .returned (pt (stpX vx vy wx wy S A) (stpY vx vy wx wy S A)) ∧ Below w.heap.size w w' := by
  have HW := hid (fun w => scale_w (wx := wx) (wy := wy) (S := S) (by omega) w)
  have HD := hid (fun w => scale_d (vx := vx) (vy := vy) (wx := wx) (wy := wy) (S := S) (A := A) (by omega) (by omega) h1 h2 h3 h4 w)
  obtain ⟨u1, u2, u3, u4⟩ := wXY_range wx wy S (by omega)
  obtain ⟨d1, d2, d3, d4⟩ := dXY_range (vx := vx) (vy := vy) (wx := wx) (wy := wy) (S := S) (A := A) (by omega) (by omega) h1 h2 h3 h4
  have HX : Hid (stpX vx vy wx wy S A = vx + (hlv 21 vx vy (S * S) (dX vx vy wx wy S A) (dY vx vy wx wy S A)).1) := rfl
  have HY : Hid (stpY vx vy wx wy S A = vy + (hlv 21 vx vy (S * S) (dX vx vy wx wy S A) (dY vx vy wx wy S A)).2) := rfl
  generalize dX vx vy wx wy S A = DX at *
  generalize dY vx vy wx wy S A = DY at *
  generalize hwx : wX wx wy S = WX at *
  generalize hwy : wY wx wy S = WY at *
  clear hwx hwy
  go_enter Try.func33, Try.ntmps33
  go_upto_region 1 with fail
  go_cut [7] (fun s7 wq => ∃ g : Nat, s7 = .pointer (some ⟨g, 0, none⟩) ∧ g < wq.heap.size ∧ w.heap.size + 1 + 1 + 1 + 1 ≤ g ∧ wq.cell? ⟨g, 0, none⟩ = some (.int .i64 WX) ∧ wq.cell? ⟨g, 1, none⟩ = some (.int .i64 WY) ∧ wq.frozen? ⟨g, 0, none⟩ = false ∧ wq.frozen? ⟨g, 1, none⟩ = false ∧ Below ((((w.alloc (.cells #[.int .i64 S, .int .i64 A, .int .i64 B, .int .i64 H, .int .i64 M] 74)).alloc (.cells #[.int .i64 vx, .int .i64 vy] 35)).alloc (.cells #[.int .i64 wx, .int .i64 wy] 35)).alloc (.cells #[.int .i64 0, .int .i64 0] 35)).heap.size ((((w.alloc (.cells #[.int .i64 S, .int .i64 A, .int .i64 B, .int .i64 H, .int .i64 M] 74)).alloc (.cells #[.int .i64 vx, .int .i64 vy] 35)).alloc (.cells #[.int .i64 wx, .int .i64 wy] 35)).alloc (.cells #[.int .i64 0, .int .i64 0] 35)) wq)
  case first =>
    refine wp_region_fresh 6 7 (fun _ => .cells #[.int .i64 0, .int .i64 0] 35) (by kernel_rfl) (by kernel_rfl) (by omega) (by kernel_rfl) ?_
    apply Exists.intro
    refine ⟨fun v1 kb1 => ?_, ?_⟩
    · have ks1 := kb1.size
      have hl0 : ∀ (z : Later v1) (o : Nat), z.val.cell? ⟨w.heap.size, o, none⟩ = ((((w.alloc (.cells #[.int .i64 S, .int .i64 A, .int .i64 B, .int .i64 H, .int .i64 M] 74)).alloc (.cells #[.int .i64 vx, .int .i64 vy] 35)).alloc (.cells #[.int .i64 wx, .int .i64 wy] 35)).alloc (.cells #[.int .i64 0, .int .i64 0] 35)).cell? ⟨w.heap.size, o, none⟩ := fun z o => (z.cell (by simp at ks1 <;> omega)).trans (kb1.cell (by simp <;> omega))
      have hl1 : ∀ (z : Later v1) (o : Nat), z.val.cell? ⟨w.heap.size + 1, o, none⟩ = ((((w.alloc (.cells #[.int .i64 S, .int .i64 A, .int .i64 B, .int .i64 H, .int .i64 M] 74)).alloc (.cells #[.int .i64 vx, .int .i64 vy] 35)).alloc (.cells #[.int .i64 wx, .int .i64 wy] 35)).alloc (.cells #[.int .i64 0, .int .i64 0] 35)).cell? ⟨w.heap.size + 1, o, none⟩ := fun z o => (z.cell (by simp at ks1 <;> omega)).trans (kb1.cell (by simp <;> omega))
      have hl2 : ∀ (z : Later v1) (o : Nat), z.val.cell? ⟨w.heap.size + 1 + 1, o, none⟩ = ((((w.alloc (.cells #[.int .i64 S, .int .i64 A, .int .i64 B, .int .i64 H, .int .i64 M] 74)).alloc (.cells #[.int .i64 vx, .int .i64 vy] 35)).alloc (.cells #[.int .i64 wx, .int .i64 wy] 35)).alloc (.cells #[.int .i64 0, .int .i64 0] 35)).cell? ⟨w.heap.size + 1 + 1, o, none⟩ := fun z o => (z.cell (by simp at ks1 <;> omega)).trans (kb1.cell (by simp <;> omega))
      simp only [List.take_succ_cons, List.take_zero]
      repeat (go_big_quiet_step (((first | (go_at_call 40; exact calls_later (clamped_any _ _ _)) | (go_at_call 42; with_reducible exact calls_later (HW.out _))))))
      exact wpQuiet_nil rfl
    · simp only [List.take_succ_cons, List.take_zero, List.drop_succ_cons, List.drop_zero]
      refine wpHead_new (by decide) rfl (run_alloc23 _ _ _ _ _ _) (fun g hg e1 => ?_)
      intro w' hS
      have b1 := (hS.own g _ upd_same).2
      have g1 := hS.lt (g := g) upd_same
      obtain ⟨c1, f1⟩ := block_cells b1
      have hbb := hS.below
      have q0 := c1 0
      have q1 := c1 1
      simp only [List.getElem?_toArray, List.getElem?_cons_zero, List.getElem?_cons_succ] at q0 q1
      clear c1 b1 hS e1
      simp only [Act.put, List.setIfInBounds_toArray, List.set_cons_zero, List.set_cons_succ]
      go_wp2
      go_meet
      case rel =>
        refine ⟨g, rfl, by simpa [World.setCell] using g1, by simpa using hg, ?_, ?_, ?_, ?_, ?_⟩
        · go_simp
        · go_simp
        · go_simp
        · go_simp
        · exact ((hbb.setCell hg _).setCell hg _)
  case rest =>
    obtain ⟨g7, rfl, hg7, hgl, c1, c2, f1, f2, hb⟩ := hcut
    have hsz : w.heap.size + 1 + 1 + 1 < wc.heap.size := by have := hb.size; simp at this; omega
    go_upto_region 2 with fail
    go_cut [8] (fun s8 wq => ∃ g : Nat, s8 = .pointer (some ⟨g, 0, none⟩) ∧ g < wq.heap.size ∧ w.heap.size + 1 + 1 + 1 + 1 ≤ g ∧ wq.cell? ⟨g, 0, none⟩ = some (.int .i64 DX) ∧ wq.cell? ⟨g, 1, none⟩ = some (.int .i64 DY) ∧ wq.frozen? ⟨g, 0, none⟩ = false ∧ wq.frozen? ⟨g, 1, none⟩ = false ∧ Below ((((w.alloc (.cells #[.int .i64 S, .int .i64 A, .int .i64 B, .int .i64 H, .int .i64 M] 74)).alloc (.cells #[.int .i64 vx, .int .i64 vy] 35)).alloc (.cells #[.int .i64 wx, .int .i64 wy] 35)).alloc (.cells #[.int .i64 0, .int .i64 0] 35)).heap.size ((((w.alloc (.cells #[.int .i64 S, .int .i64 A, .int .i64 B, .int .i64 H, .int .i64 M] 74)).alloc (.cells #[.int .i64 vx, .int .i64 vy] 35)).alloc (.cells #[.int .i64 wx, .int .i64 wy] 35)).alloc (.cells #[.int .i64 0, .int .i64 0] 35)) wq)
    case first =>
      refine wp_region_fresh 7 8 (fun _ => .cells #[.int .i64 0, .int .i64 0] 35) (by kernel_rfl) (by kernel_rfl) (by omega) (by kernel_rfl) ?_
      apply Exists.intro
      refine ⟨fun v1 kb1 => ?_, ?_⟩
      · have ks1 := kb1.size
        have hl0 : ∀ (z : Later v1) (o : Nat), z.val.cell? ⟨w.heap.size, o, none⟩ = ((((w.alloc (.cells #[.int .i64 S, .int .i64 A, .int .i64 B, .int .i64 H, .int .i64 M] 74)).alloc (.cells #[.int .i64 vx, .int .i64 vy] 35)).alloc (.cells #[.int .i64 wx, .int .i64 wy] 35)).alloc (.cells #[.int .i64 0, .int .i64 0] 35)).cell? ⟨w.heap.size, o, none⟩ := fun z o => (z.cell (by omega)).trans ((kb1.cell (by dsimp only; omega)).trans (hb.cell (by simp <;> omega)))
        have hl1 : ∀ (z : Later v1) (o : Nat), z.val.cell? ⟨w.heap.size + 1, o, none⟩ = ((((w.alloc (.cells #[.int .i64 S, .int .i64 A, .int .i64 B, .int .i64 H, .int .i64 M] 74)).alloc (.cells #[.int .i64 vx, .int .i64 vy] 35)).alloc (.cells #[.int .i64 wx, .int .i64 wy] 35)).alloc (.cells #[.int .i64 0, .int .i64 0] 35)).cell? ⟨w.heap.size + 1, o, none⟩ := fun z o => (z.cell (by omega)).trans ((kb1.cell (by dsimp only; omega)).trans (hb.cell (by simp <;> omega)))
        have hl2 : ∀ (z : Later v1) (o : Nat), z.val.cell? ⟨w.heap.size + 1 + 1, o, none⟩ = ((((w.alloc (.cells #[.int .i64 S, .int .i64 A, .int .i64 B, .int .i64 H, .int .i64 M] 74)).alloc (.cells #[.int .i64 vx, .int .i64 vy] 35)).alloc (.cells #[.int .i64 wx, .int .i64 wy] 35)).alloc (.cells #[.int .i64 0, .int .i64 0] 35)).cell? ⟨w.heap.size + 1 + 1, o, none⟩ := fun z o => (z.cell (by omega)).trans ((kb1.cell (by dsimp only; omega)).trans (hb.cell (by simp <;> omega)))
        have hl9 : ∀ (z : Later v1) (o : Nat), z.val.cell? ⟨g7, o, none⟩ = wc.cell? ⟨g7, o, none⟩ := fun z o => (z.cell (by omega)).trans (kb1.cell (by dsimp only; omega))
        simp only [List.take_succ_cons, List.take_zero]
        repeat (go_big_quiet_step (((first | (go_at_call 43; exact calls_later (sub_any _ _ _ _ (by omega) (by omega) (by omega) (by omega) (by omega) (by omega) (by omega) (by omega) _)) | (go_at_call 42; with_reducible exact calls_later (HD.out _))))))
        exact wpQuiet_nil rfl
      · simp only [List.take_succ_cons, List.take_zero, List.drop_succ_cons, List.drop_zero]
        refine wpHead_new (by decide) rfl (run_alloc23 _ _ _ _ _ _) (fun g hg e1 => ?_)
        intro w' hS
        have b1 := (hS.own g _ upd_same).2
        have g1 := hS.lt (g := g) upd_same
        obtain ⟨c1, f1⟩ := block_cells b1
        have hbb := hS.below
        have q0 := c1 0
        have q1 := c1 1
        simp only [List.getElem?_toArray, List.getElem?_cons_zero, List.getElem?_cons_succ] at q0 q1
        clear c1 b1 hS e1
        simp only [Act.put, List.setIfInBounds_toArray, List.set_cons_zero, List.set_cons_succ]
        go_wp2
        go_meet
        case rel =>
          refine ⟨g, rfl, by simpa [World.setCell] using g1, by omega, ?_, ?_, ?_, ?_, ?_⟩
          · go_simp
          · go_simp
          · go_simp
          · go_simp
          · exact hb.trans ((((hbb.setCell hg _).setCell hg _)).mono hb.size)
    case rest =>
      clear HW HD c1 c2 f1 f2
      obtain ⟨g8, rfl, hg8, hgl8, k1, k2, k3, k4, hb8⟩ := hcut
      clear hb hsz
      go_wp2_with fail
      go_loopw [] (fun wr => ∃ (k : Nat) (dx dy : Int), Hid (-(2 : Int) ^ k < dx ∧ dx < 2 ^ k ∧ -(2 : Int) ^ k < dy ∧ dy < 2 ^ k ∧ hlv k vx vy (S * S) dx dy = hlv 21 vx vy (S * S) DX DY) ∧ -2097152 ≤ dx ∧ dx ≤ 2097152 ∧ -2097152 ≤ dy ∧ dy ≤ 2097152 ∧ g8 < wr.heap.size ∧ wr.cell? ⟨g8, 0, none⟩ = some (.int .i64 dx) ∧ wr.cell? ⟨g8, 1, none⟩ = some (.int .i64 dy) ∧ wr.frozen? ⟨g8, 0, none⟩ = false ∧ wr.frozen? ⟨g8, 1, none⟩ = false ∧ Below ((((w.alloc (.cells #[.int .i64 S, .int .i64 A, .int .i64 B, .int .i64 H, .int .i64 M] 74)).alloc (.cells #[.int .i64 vx, .int .i64 vy] 35)).alloc (.cells #[.int .i64 wx, .int .i64 wy] 35)).alloc (.cells #[.int .i64 0, .int .i64 0] 35)).heap.size ((((w.alloc (.cells #[.int .i64 S, .int .i64 A, .int .i64 B, .int .i64 H, .int .i64 M] 74)).alloc (.cells #[.int .i64 vx, .int .i64 vy] 35)).alloc (.cells #[.int .i64 wx, .int .i64 wy] 35)).alloc (.cells #[.int .i64 0, .int .i64 0] 35)) wr) (fun wr => mcell wr g8)
      case atStart =>
        have e : (2 : Int) ^ 21 = 2097152 := by decide
        exact ⟨21, DX, DY, hid ⟨by omega, by omega, by omega, by omega, rfl⟩, by omega, by omega, by omega, by omega, hg8, k1, k2, k3, k4, hb8⟩
      case round =>
        obtain ⟨k, dx, dy, HH, b1, b2, b3, b4, hgr, e1, e2, e3, e4, hbr⟩ := hrel
        obtain ⟨hq1, hq2⟩ := sq_S s1 s2
        have hsr : w.heap.size + 1 + 1 + 1 < wr.heap.size := by have := hbr.size; simp at this; omega
        have hl0 : ∀ (z : Later wr) (o : Nat), z.val.cell? ⟨w.heap.size, o, none⟩ = ((((w.alloc (.cells #[.int .i64 S, .int .i64 A, .int .i64 B, .int .i64 H, .int .i64 M] 74)).alloc (.cells #[.int .i64 vx, .int .i64 vy] 35)).alloc (.cells #[.int .i64 wx, .int .i64 wy] 35)).alloc (.cells #[.int .i64 0, .int .i64 0] 35)).cell? ⟨w.heap.size, o, none⟩ := fun z o => (z.cell (by omega)).trans (hbr.cell (by simp <;> omega))
        have hl1 : ∀ (z : Later wr) (o : Nat), z.val.cell? ⟨w.heap.size + 1, o, none⟩ = ((((w.alloc (.cells #[.int .i64 S, .int .i64 A, .int .i64 B, .int .i64 H, .int .i64 M] 74)).alloc (.cells #[.int .i64 vx, .int .i64 vy] 35)).alloc (.cells #[.int .i64 wx, .int .i64 wy] 35)).alloc (.cells #[.int .i64 0, .int .i64 0] 35)).cell? ⟨w.heap.size + 1, o, none⟩ := fun z o => (z.cell (by omega)).trans (hbr.cell (by simp <;> omega))
        have hl3 : ∀ (z : Later wr) (o : Nat), z.val.cell? ⟨w.heap.size + 1 + 1 + 1, o, none⟩ = ((((w.alloc (.cells #[.int .i64 S, .int .i64 A, .int .i64 B, .int .i64 H, .int .i64 M] 74)).alloc (.cells #[.int .i64 vx, .int .i64 vy] 35)).alloc (.cells #[.int .i64 wx, .int .i64 wy] 35)).alloc (.cells #[.int .i64 0, .int .i64 0] 35)).cell? ⟨w.heap.size + 1 + 1 + 1, o, none⟩ := fun z o => (z.cell (by omega)).trans (hbr.cell (by simp <;> omega))
        have hz3 : ∀ (z : Later wr) (o : Nat), z.val.frozen? ⟨w.heap.size + 1 + 1 + 1, o, none⟩ = ((((w.alloc (.cells #[.int .i64 S, .int .i64 A, .int .i64 B, .int .i64 H, .int .i64 M] 74)).alloc (.cells #[.int .i64 vx, .int .i64 vy] 35)).alloc (.cells #[.int .i64 wx, .int .i64 wy] 35)).alloc (.cells #[.int .i64 0, .int .i64 0] 35)).frozen? ⟨w.heap.size + 1 + 1 + 1, o, none⟩ := fun z o => (z.frz (by omega)).trans (hbr.frozen (by simp <;> omega))
        have hl8 : ∀ (z : Later wr) (o : Nat), z.val.cell? ⟨g8, o, none⟩ = wr.cell? ⟨g8, o, none⟩ := fun z o => z.cell hgr
        have hz8 : ∀ (z : Later wr) (o : Nat), z.val.frozen? ⟨g8, o, none⟩ = wr.frozen? ⟨g8, o, none⟩ := fun z o => z.frz hgr
        have qn := neq_pt
        have CS : (decide (dx = 0) = false ∧ decide (dy = 0) = decide (dy = 0)) ∨ (decide (dx = 0) = true ∧ decide (dy = 0) = false) ∨ (decide (dx = 0) = true ∧ decide (dy = 0) = true) := by
          by_cases h : dx = 0 <;> by_cases h' : dy = 0 <;> simp [h, h']
        rcases Int.lt_or_le (S * S) (sqr (vx + dx) (vy + dy)) with hs | hs
        · have hsq : decide (S * S < sqr (vx + dx) (vy + dy)) = true := decide_eq_true hs
          have HS := hid hs
          clear hs
          rcases CS with ⟨x1, _⟩ | ⟨x1, x2⟩ | ⟨x1, x2⟩
          · go_wp2_with fail
            refine wp_region_later (Below.refl _ _) (by kernel_rfl) (by kernel_rfl) ?_
            repeat (go_big_quiet_step ((first
              | (go_at_call 44; exact calls_later (add_any _ _ _ _ (by omega) (by omega) (by omega) (by omega) (by omega) (by omega) (by omega) (by omega) _))
              | (go_at_call 39; exact calls_later (msquare_any _ _ (by omega) (by omega) (by omega) (by omega) _)))))
            refine wpQuiet_nil ?_
            intro _ hw'
            obtain ⟨y0, hw''⟩ := hw'
            subst hw''
            have hy : w.heap.size + 1 + 1 + 1 < y0.val.heap.size := by have := y0.size; omega
            have hy8 : g8 < y0.val.heap.size := by have := y0.size; omega
            clear qn
            have HT := hid (tdiv2 dx)
            have HT2 := hid (tdiv2 dy)
            go_wp2_with fail
            have hne : ¬ (dx = 0 ∧ dy = 0) := by
              rintro ⟨hh, hh'⟩
              first | exact absurd (decide_eq_true hh) (by rw [x1]; decide) | exact absurd (decide_eq_true hh') (by rw [x2]; decide)
            go_roundw
            case rel =>
              cases k with
              | zero =>
                have := HH.out
                simp at this
                exact absurd ⟨by omega, by omega⟩ hne
              | succ k =>
                obtain ⟨p1, p2, p3, p4, p5⟩ := HH.out
                have e : (2 : Int) ^ (k + 1) = 2 ^ k + 2 ^ k := by rw [Int.pow_succ]; omega
                rw [e] at p1 p2 p3 p4
                have t1 := tdiv2_lt p1 p2
                have t2 := tdiv2_lt p3 p4
                have t3 := HT.out
                have t4 := HT2.out
                refine ⟨k, dx.tdiv 2, dy.tdiv 2, hid ⟨t1.1, t1.2, t2.1, t2.2, by rw [← p5, hlv_go]; rintro (h | h); (have := HS.out; omega); exact hne h⟩, ?_, ?_, ?_, ?_, by simpa [World.setCell] using hy8, by go_simp, by go_simp, by go_simp, by go_simp, ((hbr.trans (y0.ok.mono hbr.size)).setCell (by simp <;> omega) _).setCell (by simp <;> omega) _⟩
                · rcases Int.lt_or_le dx 0 with h | h; (have := t3.2 (by omega); omega); (have := t3.1 h; omega)
                · rcases Int.lt_or_le dx 0 with h | h; (have := t3.2 (by omega); omega); (have := t3.1 h; omega)
                · rcases Int.lt_or_le dy 0 with h | h; (have := t4.2 (by omega); omega); (have := t4.1 h; omega)
                · rcases Int.lt_or_le dy 0 with h | h; (have := t4.2 (by omega); omega); (have := t4.1 h; omega)
            case measure =>
              have m := half_lt hne
              simpa [mcell, intOf, go_sem, hl8, hz8, e1, e2, e3, e4] using m
          · go_wp2_with fail
            refine wp_region_later (Below.refl _ _) (by kernel_rfl) (by kernel_rfl) ?_
            repeat (go_big_quiet_step ((first
              | (go_at_call 44; exact calls_later (add_any _ _ _ _ (by omega) (by omega) (by omega) (by omega) (by omega) (by omega) (by omega) (by omega) _))
              | (go_at_call 39; exact calls_later (msquare_any _ _ (by omega) (by omega) (by omega) (by omega) _)))))
            refine wpQuiet_nil ?_
            intro _ hw'
            obtain ⟨y0, hw''⟩ := hw'
            subst hw''
            have hy : w.heap.size + 1 + 1 + 1 < y0.val.heap.size := by have := y0.size; omega
            have hy8 : g8 < y0.val.heap.size := by have := y0.size; omega
            clear qn
            have HT := hid (tdiv2 dx)
            have HT2 := hid (tdiv2 dy)
            go_wp2_with fail
            have hne : ¬ (dx = 0 ∧ dy = 0) := by
              rintro ⟨hh, hh'⟩
              first | exact absurd (decide_eq_true hh) (by rw [x1]; decide) | exact absurd (decide_eq_true hh') (by rw [x2]; decide)
            go_roundw
            case rel =>
              cases k with
              | zero =>
                have := HH.out
                simp at this
                exact absurd ⟨by omega, by omega⟩ hne
              | succ k =>
                obtain ⟨p1, p2, p3, p4, p5⟩ := HH.out
                have e : (2 : Int) ^ (k + 1) = 2 ^ k + 2 ^ k := by rw [Int.pow_succ]; omega
                rw [e] at p1 p2 p3 p4
                have t1 := tdiv2_lt p1 p2
                have t2 := tdiv2_lt p3 p4
                have t3 := HT.out
                have t4 := HT2.out
                refine ⟨k, dx.tdiv 2, dy.tdiv 2, hid ⟨t1.1, t1.2, t2.1, t2.2, by rw [← p5, hlv_go]; rintro (h | h); (have := HS.out; omega); exact hne h⟩, ?_, ?_, ?_, ?_, by simpa [World.setCell] using hy8, by go_simp, by go_simp, by go_simp, by go_simp, ((hbr.trans (y0.ok.mono hbr.size)).setCell (by simp <;> omega) _).setCell (by simp <;> omega) _⟩
                · rcases Int.lt_or_le dx 0 with h | h; (have := t3.2 (by omega); omega); (have := t3.1 h; omega)
                · rcases Int.lt_or_le dx 0 with h | h; (have := t3.2 (by omega); omega); (have := t3.1 h; omega)
                · rcases Int.lt_or_le dy 0 with h | h; (have := t4.2 (by omega); omega); (have := t4.1 h; omega)
                · rcases Int.lt_or_le dy 0 with h | h; (have := t4.2 (by omega); omega); (have := t4.1 h; omega)
            case measure =>
              have m := half_lt hne
              simpa [mcell, intOf, go_sem, hl8, hz8, e1, e2, e3, e4] using m
          · go_wp2_with fail
            refine wp_region_later (Below.refl _ _) (by kernel_rfl) (by kernel_rfl) ?_
            repeat (go_big_quiet_step ((first
              | (go_at_call 44; exact calls_later (add_any _ _ _ _ (by omega) (by omega) (by omega) (by omega) (by omega) (by omega) (by omega) (by omega) _))
              | (go_at_call 39; exact calls_later (msquare_any _ _ (by omega) (by omega) (by omega) (by omega) _)))))
            refine wpQuiet_nil ?_
            intro _ hw'
            obtain ⟨y0, hw''⟩ := hw'
            subst hw''
            have hy : w.heap.size + 1 + 1 + 1 < y0.val.heap.size := by have := y0.size; omega
            have hy8 : g8 < y0.val.heap.size := by have := y0.size; omega
            have HE : Hid (hlv 21 vx vy (S * S) DX DY = (dx, dy)) := hid (by
              rw [← HH.out.2.2.2.2]
              exact hlv_stop (by first | exact Or.inl HS.out | exact Or.inr ⟨of_decide_eq_true x1, of_decide_eq_true x2⟩))
            clear qn x1
            go_wp2_with (first
              | (go_at_call 44; refine (add_any _ _ _ _ (by omega) (by omega) (by omega) (by omega) (by omega) (by omega) (by omega) (by omega) _).mono ?_; rintro e w5 ⟨rfl, hb5⟩; obtain ⟨hc5, hf5⟩ := bcell hb5))
            have hB : Below w.heap.size w y0.val := box3 (below_box (hbr.trans (y0.ok.mono hbr.size)))
            (try simp only [Exit.inBlock, Exit.then])
            refine bodyPost_ret (v := pt (vx + dx) (vy + dy)) (by simp [results, Try.results33, go_sem, hc5, hy, hl3]) rfl ?_
            exact ⟨by rw [HX.out, HY.out, HE.out], (((hB.trans (hb5.mono (by omega))).setCell (by simp <;> omega) _).setCell (by simp <;> omega) _)⟩
        · have hsq : decide (S * S < sqr (vx + dx) (vy + dy)) = false := decide_eq_false (by omega)
          have HS := hid hs
          clear hs
          rcases CS with ⟨x1, _⟩ | ⟨x1, x2⟩ | ⟨x1, x2⟩
          · go_wp2_with fail
            refine wp_region_later (Below.refl _ _) (by kernel_rfl) (by kernel_rfl) ?_
            repeat (go_big_quiet_step ((first
              | (go_at_call 44; exact calls_later (add_any _ _ _ _ (by omega) (by omega) (by omega) (by omega) (by omega) (by omega) (by omega) (by omega) _))
              | (go_at_call 39; exact calls_later (msquare_any _ _ (by omega) (by omega) (by omega) (by omega) _)))))
            refine wpQuiet_nil ?_
            intro _ hw'
            obtain ⟨y0, hw''⟩ := hw'
            subst hw''
            have hy : w.heap.size + 1 + 1 + 1 < y0.val.heap.size := by have := y0.size; omega
            have hy8 : g8 < y0.val.heap.size := by have := y0.size; omega
            have HE : Hid (hlv 21 vx vy (S * S) DX DY = (dx, dy)) := hid (by
              rw [← HH.out.2.2.2.2]
              exact hlv_stop (by first | exact Or.inl HS.out | exact Or.inr ⟨of_decide_eq_true x1, of_decide_eq_true x2⟩))
            clear qn x1
            go_wp2_with (first
              | (go_at_call 44; refine (add_any _ _ _ _ (by omega) (by omega) (by omega) (by omega) (by omega) (by omega) (by omega) (by omega) _).mono ?_; rintro e w5 ⟨rfl, hb5⟩; obtain ⟨hc5, hf5⟩ := bcell hb5))
            have hB : Below w.heap.size w y0.val := box3 (below_box (hbr.trans (y0.ok.mono hbr.size)))
            (try simp only [Exit.inBlock, Exit.then])
            refine bodyPost_ret (v := pt (vx + dx) (vy + dy)) (by simp [results, Try.results33, go_sem, hc5, hy, hl3]) rfl ?_
            exact ⟨by rw [HX.out, HY.out, HE.out], (((hB.trans (hb5.mono (by omega))).setCell (by simp <;> omega) _).setCell (by simp <;> omega) _)⟩
          · go_wp2_with fail
            refine wp_region_later (Below.refl _ _) (by kernel_rfl) (by kernel_rfl) ?_
            repeat (go_big_quiet_step ((first
              | (go_at_call 44; exact calls_later (add_any _ _ _ _ (by omega) (by omega) (by omega) (by omega) (by omega) (by omega) (by omega) (by omega) _))
              | (go_at_call 39; exact calls_later (msquare_any _ _ (by omega) (by omega) (by omega) (by omega) _)))))
            refine wpQuiet_nil ?_
            intro _ hw'
            obtain ⟨y0, hw''⟩ := hw'
            subst hw''
            have hy : w.heap.size + 1 + 1 + 1 < y0.val.heap.size := by have := y0.size; omega
            have hy8 : g8 < y0.val.heap.size := by have := y0.size; omega
            have HE : Hid (hlv 21 vx vy (S * S) DX DY = (dx, dy)) := hid (by
              rw [← HH.out.2.2.2.2]
              exact hlv_stop (by first | exact Or.inl HS.out | exact Or.inr ⟨of_decide_eq_true x1, of_decide_eq_true x2⟩))
            clear qn x1
            go_wp2_with (first
              | (go_at_call 44; refine (add_any _ _ _ _ (by omega) (by omega) (by omega) (by omega) (by omega) (by omega) (by omega) (by omega) _).mono ?_; rintro e w5 ⟨rfl, hb5⟩; obtain ⟨hc5, hf5⟩ := bcell hb5))
            have hB : Below w.heap.size w y0.val := box3 (below_box (hbr.trans (y0.ok.mono hbr.size)))
            (try simp only [Exit.inBlock, Exit.then])
            refine bodyPost_ret (v := pt (vx + dx) (vy + dy)) (by simp [results, Try.results33, go_sem, hc5, hy, hl3]) rfl ?_
            exact ⟨by rw [HX.out, HY.out, HE.out], (((hB.trans (hb5.mono (by omega))).setCell (by simp <;> omega) _).setCell (by simp <;> omega) _)⟩
          · go_wp2_with fail
            refine wp_region_later (Below.refl _ _) (by kernel_rfl) (by kernel_rfl) ?_
            repeat (go_big_quiet_step ((first
              | (go_at_call 44; exact calls_later (add_any _ _ _ _ (by omega) (by omega) (by omega) (by omega) (by omega) (by omega) (by omega) (by omega) _))
              | (go_at_call 39; exact calls_later (msquare_any _ _ (by omega) (by omega) (by omega) (by omega) _)))))
            refine wpQuiet_nil ?_
            intro _ hw'
            obtain ⟨y0, hw''⟩ := hw'
            subst hw''
            have hy : w.heap.size + 1 + 1 + 1 < y0.val.heap.size := by have := y0.size; omega
            have hy8 : g8 < y0.val.heap.size := by have := y0.size; omega
            have HE : Hid (hlv 21 vx vy (S * S) DX DY = (dx, dy)) := hid (by
              rw [← HH.out.2.2.2.2]
              exact hlv_stop (by first | exact Or.inl HS.out | exact Or.inr ⟨of_decide_eq_true x1, of_decide_eq_true x2⟩))
            clear qn x1
            go_wp2_with (first
              | (go_at_call 44; refine (add_any _ _ _ _ (by omega) (by omega) (by omega) (by omega) (by omega) (by omega) (by omega) (by omega) _).mono ?_; rintro e w5 ⟨rfl, hb5⟩; obtain ⟨hc5, hf5⟩ := bcell hb5))
            have hB : Below w.heap.size w y0.val := box3 (below_box (hbr.trans (y0.ok.mono hbr.size)))
            (try simp only [Exit.inBlock, Exit.then])
            refine bodyPost_ret (v := pt (vx + dx) (vy + dy)) (by simp [results, Try.results33, go_sem, hc5, hy, hl3]) rfl ?_
            exact ⟨by rw [HX.out, HY.out, HE.out], (((hB.trans (hb5.mono (by omega))).setCell (by simp <;> omega) _).setCell (by simp <;> omega) _)⟩
theorem stp_range {vx vy wx wy S A : Int} (s1 : 1 ≤ S) (s2 : S ≤ 4096) (a1 : 1 ≤ A) (h1 : -4096 ≤ vx) (h2 : vx ≤ 4096) (h3 : -4096 ≤ vy) (h4 : vy ≤ 4096) (hv : sqr vx vy ≤ S * S) : -4096 ≤ stpX vx vy wx wy S A ∧ stpX vx vy wx wy S A ≤ 4096 ∧ -4096 ≤ stpY vx vy wx wy S A ∧ stpY vx vy wx wy S A ≤ 4096 := by
  have := stp_speed (vx := vx) (vy := vy) (wx := wx) (wy := wy) (S := S) (A := A) (by omega) (by omega) h1 h2 h3 h4 hv
  have := abs_of_sqr (by omega) this
  omega
set_option maxHeartbeats 2000000 in
theorem step_no (px py vx vy wx wy S A B H M : Int) (ev : vld px py vx vy S A B H M = false) (w : World) : Calls Try.prog 21 #[mo px py vx vy, pt wx wy, lim S A B H M] w fun e w' => e = .returned (mo px py vx vy) ∧ Below w.heap.size w w' := by
  have HV := hid (valid_of ev)
  go_enter Try.func21, Try.ntmps21
  go_wp2_with (first | (go_at_call 31; (with_reducible refine (HV.out _).mono ?_); rintro e w2 ⟨rfl, hb⟩; obtain ⟨hc, hf⟩ := bcell hb; have hz : w.heap.size + 1 + 1 + 1 < w2.heap.size := (by have := hb.size; simp at this; omega)))
  (try simp only [Exit.inBlock, Exit.then])
  refine bodyPost_ret (v := mo px py vx vy) (by simp [results, Try.results21, go_sem, hc]) rfl ?_
  exact ⟨rfl, ((((box3 (below_box hb)).setCell (by simp <;> omega) _).setCell (by simp <;> omega) _).setCell (by simp <;> omega) _).setCell (by simp <;> omega) _⟩
theorem step_next {px py vx vy wx wy S A B H M : Int} (ev : vld px py vx vy S A B H M = true) (w : World) : Calls Try.prog 32 #[mo px py vx vy, pt wx wy, rule 33 S A B H M] w fun e w' => e = .returned (mo (clp (px + stpX vx vy wx wy S A)) (clp (py + stpY vx vy wx wy S A)) (stpX vx vy wx wy S A) (stpY vx vy wx wy S A)) ∧ Below w.heap.size w w' := by
  obtain ⟨k1, p1, p2, p3, p4, hv⟩ := vld_true ev
  obtain ⟨s1, s2, a1, a2, _⟩ := chk_true k1
  obtain ⟨h1, h2, h3, h4⟩ := vld_abs ev
  obtain ⟨r1, r2, r3, r4⟩ := stp_range (wx := wx) (wy := wy) s1 s2 a1 h1 h2 h3 h4 hv
  exact next35_any S A B H M px py vx vy wx wy _ _ (by omega) (by omega) (by omega) (by omega) (by omega) (by omega) (by omega) (by omega) (hid (fun w => wanted_any S A B H M vx vy wx wy s1 s2 a1 (by omega) h1 h2 h3 h4 w)) w
set_option maxHeartbeats 2000000 in
theorem step_yes (px py vx vy wx wy S A B H M : Int) (ev : vld px py vx vy S A B H M = true) (w : World) : Calls Try.prog 21 #[mo px py vx vy, pt wx wy, lim S A B H M] w fun e w' => e = .returned (mo (clp (px + stpX vx vy wx wy S A)) (clp (py + stpY vx vy wx wy S A)) (stpX vx vy wx wy S A) (stpY vx vy wx wy S A)) ∧ Below w.heap.size w w' := by
  have HV := hid (valid_of ev)
  have HN := hid (fun w => step_next (wx := wx) (wy := wy) ev w)
  clear ev
  go_enter Try.func21, Try.ntmps21
  go_wp2_with (first
    | (go_at_call 31; (with_reducible refine (HV.out _).mono ?_); rintro e w2 ⟨rfl, hb⟩; obtain ⟨hc, hf⟩ := bcell hb; have hz : w.heap.size + 1 + 1 + 1 < w2.heap.size := (by have := hb.size; simp at this; omega))
    | (go_at_call 32; (with_reducible refine (HN.out _).mono ?_); rintro e w3 ⟨rfl, hb3⟩; obtain ⟨hc3, hf3⟩ := bcell hb3; have hz3 := hb3.size))
  (try simp only [Exit.inBlock, Exit.then])
  have d0 : ∀ o, w3.cell? ⟨w.heap.size + 1 + 1 + 1, o, none⟩ = ((((w.alloc (.cells #[.int .i64 px, .int .i64 py, .int .i64 vx, .int .i64 vy] 37)).alloc (.cells #[.int .i64 wx, .int .i64 wy] 35)).alloc (.cells #[.int .i64 S, .int .i64 A, .int .i64 B, .int .i64 H, .int .i64 M] 27)).alloc (.cells #[.int .i64 0, .int .i64 0, .int .i64 0, .int .i64 0] 37)).cell? ⟨w.heap.size + 1 + 1 + 1, o, none⟩ := fun o => (hc3 _ _ (by omega)).trans (hc _ _ (by simp <;> omega))
  refine bodyPost_ret (v := mo (clp (px + stpX vx vy wx wy S A)) (clp (py + stpY vx vy wx wy S A)) (stpX vx vy wx wy S A) (stpY vx vy wx wy S A)) (by simp [results, Try.results21, go_sem, d0]) rfl ?_
  exact ⟨rfl, (((((box3 (below_box hb)).trans (hb3.mono (by omega))).setCell (by simp <;> omega) _).setCell (by simp <;> omega) _).setCell (by simp <;> omega) _).setCell (by simp <;> omega) _⟩
end Go.Proofs.Ytfcianhmfpenhaa
