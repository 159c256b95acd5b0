/- Walks: Step, the reference's. -/
import Derived.Test.YthfpdlkeagoamaaWh
namespace Go.Proofs.Ythfpdlkeagoamaa
open Go.RowKit
set_option linter.unusedVariables false
/-- the motion after a tick -/
def nPx (px py vx vy wx wy S A B H M : Int) : Int := if vld px py vx vy S A B H M then clp (px + stpX vx vy wx wy S A) else px
def nPy (px py vx vy wx wy S A B H M : Int) : Int := if vld px py vx vy S A B H M then clp (py + stpY vx vy wx wy S A) else py
def nVx (px py vx vy wx wy S A B H M : Int) : Int := if vld px py vx vy S A B H M then stpX vx vy wx wy S A else vx
def nVy (px py vx vy wx wy S A B H M : Int) : Int := if vld px py vx vy S A B H M then stpY vx vy wx wy S A else vy
theorem n_yes {px py vx vy wx wy S A B H M : Int} (h : vld px py vx vy S A B H M = true) : nPx px py vx vy wx wy S A B H M = clp (px + stpX vx vy wx wy S A) ∧ nPy px py vx vy wx wy S A B H M = clp (py + stpY vx vy wx wy S A) ∧ nVx px py vx vy wx wy S A B H M = stpX vx vy wx wy S A ∧ nVy px py vx vy wx wy S A B H M = stpY vx vy wx wy S A := by
  unfold nPx nPy nVx nVy; rw [h]; exact ⟨rfl, rfl, rfl, rfl⟩
theorem n_no {px py vx vy wx wy S A B H M : Int} (h : vld px py vx vy S A B H M = false) : nPx px py vx vy wx wy S A B H M = px ∧ nPy px py vx vy wx wy S A B H M = py ∧ nVx px py vx vy wx wy S A B H M = vx ∧ nVy px py vx vy wx wy S A B H M = vy := by
  unfold nPx nPy nVx nVy; rw [h]; exact ⟨rfl, rfl, rfl, rfl⟩
set_option maxHeartbeats 4000000 in
theorem rstep_yes (px py vx vy wx wy S A B H M : Int) (ev : vld px py vx vy S A B H M = true) (w : World) :
    Calls Try.prog 17 #[mo px py vx vy, pt wx wy, lim S A B H M] w fun e w' => e = .returned (mo (clp (px + stpX vx vy wx wy S A)) (clp (py + stpY vx vy wx wy S A)) (stpX vx vy wx wy S A) (stpY vx vy wx wy S A)) ∧ Below w.heap.size w w' := by
  have HV := hid (rvalid_of ev)
  obtain ⟨k1, p1, p2, p3, p4, _⟩ := vld_true ev
  obtain ⟨s1, s2, a1, a2, _⟩ := chk_true k1
  obtain ⟨h1, h2, h3, h4⟩ := vld_abs ev
  clear ev k1
  have HW := hid (fun w => rscale_w (wx := wx) (wy := wy) (S := S) (by omega) w)
  have HD := hid (fun w => rscale_d (vx := vx) (vy := vy) (wx := wx) (wy := wy) (S := S) (A := A) (by omega) (by omega) h1 h2 h3 h4 w)
  obtain ⟨u1, u2, u3, u4⟩ := wXY_range wx wy S (by omega)
  obtain ⟨d1, d2, d3, d4⟩ := dXY_range (vx := vx) (vy := vy) (wx := wx) (wy := wy) (S := S) (A := A) (by omega) (by omega) h1 h2 h3 h4
  have HX : Hid (stpX vx vy wx wy S A = vx + (hlv 21 vx vy (S * S) (dX vx vy wx wy S A) (dY vx vy wx wy S A)).1) := rfl
  have HY : Hid (stpY vx vy wx wy S A = vy + (hlv 21 vx vy (S * S) (dX vx vy wx wy S A) (dY vx vy wx wy S A)).2) := rfl
  generalize dX vx vy wx wy S A = DX at *
  generalize dY vx vy wx wy S A = DY at *
  generalize hwx : wX wx wy S = WX at *
  generalize hwy : wY wx wy S = WY at *
  clear hwx hwy
  go_enter Try.func17, Try.ntmps17
  go_upto_region 3 with (first | (go_at_call 13; (with_reducible refine (HV.out _).mono ?_); rintro e w2 ⟨rfl, hb⟩))
  have hsz0 : w.heap.size + 1 + 1 + 1 < w2.heap.size := by have := hb.size; simp at this; omega
  go_cut [7] (fun s7 wq => ∃ g : Nat, s7 = .pointer (some ⟨g, 0, none⟩) ∧ g < wq.heap.size ∧ w.heap.size + 1 + 1 + 1 + 1 ≤ g ∧ wq.cell? ⟨g, 0, none⟩ = some (.int .i64 WX) ∧ wq.cell? ⟨g, 1, none⟩ = some (.int .i64 WY) ∧ wq.frozen? ⟨g, 0, none⟩ = false ∧ wq.frozen? ⟨g, 1, none⟩ = false ∧ Below ((((w.alloc (.cells #[.int .i64 px, .int .i64 py, .int .i64 vx, .int .i64 vy] 25)).alloc (.cells #[.int .i64 wx, .int .i64 wy] 23)).alloc (.cells #[.int .i64 S, .int .i64 A, .int .i64 B, .int .i64 H, .int .i64 M] 27)).alloc (.cells #[.int .i64 0, .int .i64 0, .int .i64 0, .int .i64 0] 25)).heap.size ((((w.alloc (.cells #[.int .i64 px, .int .i64 py, .int .i64 vx, .int .i64 vy] 25)).alloc (.cells #[.int .i64 wx, .int .i64 wy] 23)).alloc (.cells #[.int .i64 S, .int .i64 A, .int .i64 B, .int .i64 H, .int .i64 M] 27)).alloc (.cells #[.int .i64 0, .int .i64 0, .int .i64 0, .int .i64 0] 25)) wq)
  case first =>
    refine wp_region_fresh 5 6 (fun _ => .cells #[.int .i64 0, .int .i64 0] 23) (by kernel_rfl) (by kernel_rfl) (by omega) (by kernel_rfl) ?_
    apply Exists.intro
    refine ⟨fun v1 kb1 => ?_, ?_⟩
    · have ks1 := kb1.size
      have hl1 : ∀ (z : Later v1) (o : Nat), z.val.cell? ⟨w.heap.size + 1, o, none⟩ = ((((w.alloc (.cells #[.int .i64 px, .int .i64 py, .int .i64 vx, .int .i64 vy] 25)).alloc (.cells #[.int .i64 wx, .int .i64 wy] 23)).alloc (.cells #[.int .i64 S, .int .i64 A, .int .i64 B, .int .i64 H, .int .i64 M] 27)).alloc (.cells #[.int .i64 0, .int .i64 0, .int .i64 0, .int .i64 0] 25)).cell? ⟨w.heap.size + 1, o, none⟩ := fun z o => (z.cell (by omega)).trans ((kb1.cell (by dsimp only; omega)).trans (hb.cell (by simp <;> omega)))
      have hl2 : ∀ (z : Later v1) (o : Nat), z.val.cell? ⟨w.heap.size + 1 + 1, o, none⟩ = ((((w.alloc (.cells #[.int .i64 px, .int .i64 py, .int .i64 vx, .int .i64 vy] 25)).alloc (.cells #[.int .i64 wx, .int .i64 wy] 23)).alloc (.cells #[.int .i64 S, .int .i64 A, .int .i64 B, .int .i64 H, .int .i64 M] 27)).alloc (.cells #[.int .i64 0, .int .i64 0, .int .i64 0, .int .i64 0] 25)).cell? ⟨w.heap.size + 1 + 1, o, none⟩ := fun z o => (z.cell (by omega)).trans ((kb1.cell (by dsimp only; omega)).trans (hb.cell (by simp <;> omega)))
      simp only [List.take_succ_cons, List.take_zero]
      repeat (go_big_quiet_step (((first | (go_at_call 16; exact calls_later (rclamp_any _ _ _)) | (go_at_call 36; with_reducible exact calls_later (HW.out _))))))
      exact wpQuiet_nil rfl
    · simp only [List.take_succ_cons, List.take_zero, List.drop_succ_cons, List.drop_zero]
      refine wpHead_new (by decide) rfl (run_alloc23 _ _ _ _ _ _) (fun g hg e1 => ?_)
      intro w' hS
      have b1 := (hS.own g _ upd_same).2
      have g1 := hS.lt (g := g) upd_same
      obtain ⟨c1, f1⟩ := block_cells b1
      have hbb := hS.below
      have q0 := c1 0
      have q1 := c1 1
      simp only [List.getElem?_toArray, List.getElem?_cons_zero, List.getElem?_cons_succ] at q0 q1
      clear c1 b1 hS e1
      simp only [Act.put, List.setIfInBounds_toArray, List.set_cons_zero, List.set_cons_succ]
      go_wp2
      go_meet
      case rel =>
        refine ⟨g, rfl, by simpa [World.setCell] using g1, by omega, ?_, ?_, ?_, ?_, ?_⟩
        · go_simp
        · go_simp
        · go_simp
        · go_simp
        · exact hb.trans ((((hbb.setCell hg _).setCell hg _)).mono hb.size)
  case rest =>
    clear hb hsz0
    obtain ⟨g7, rfl, hg7, hgl, c1, c2, f1, f2, hb⟩ := hcut
    have hsz : w.heap.size + 1 + 1 + 1 < wc.heap.size := by have := hb.size; simp at this; omega
    go_upto_region 4 with fail
    go_cut [8] (fun s8 wq => ∃ g : Nat, s8 = .pointer (some ⟨g, 0, none⟩) ∧ g < wq.heap.size ∧ w.heap.size + 1 + 1 + 1 + 1 ≤ g ∧ wq.cell? ⟨g, 0, none⟩ = some (.int .i64 DX) ∧ wq.cell? ⟨g, 1, none⟩ = some (.int .i64 DY) ∧ wq.frozen? ⟨g, 0, none⟩ = false ∧ wq.frozen? ⟨g, 1, none⟩ = false ∧ Below ((((w.alloc (.cells #[.int .i64 px, .int .i64 py, .int .i64 vx, .int .i64 vy] 25)).alloc (.cells #[.int .i64 wx, .int .i64 wy] 23)).alloc (.cells #[.int .i64 S, .int .i64 A, .int .i64 B, .int .i64 H, .int .i64 M] 27)).alloc (.cells #[.int .i64 0, .int .i64 0, .int .i64 0, .int .i64 0] 25)).heap.size ((((w.alloc (.cells #[.int .i64 px, .int .i64 py, .int .i64 vx, .int .i64 vy] 25)).alloc (.cells #[.int .i64 wx, .int .i64 wy] 23)).alloc (.cells #[.int .i64 S, .int .i64 A, .int .i64 B, .int .i64 H, .int .i64 M] 27)).alloc (.cells #[.int .i64 0, .int .i64 0, .int .i64 0, .int .i64 0] 25)) wq)
    case first =>
      have kc0 : ∀ (o : Nat), wc.cell? ⟨w.heap.size, o, none⟩ = ((((w.alloc (.cells #[.int .i64 px, .int .i64 py, .int .i64 vx, .int .i64 vy] 25)).alloc (.cells #[.int .i64 wx, .int .i64 wy] 23)).alloc (.cells #[.int .i64 S, .int .i64 A, .int .i64 B, .int .i64 H, .int .i64 M] 27)).alloc (.cells #[.int .i64 0, .int .i64 0, .int .i64 0, .int .i64 0] 25)).cell? ⟨w.heap.size, o, none⟩ := fun o => hb.cell (by simp <;> omega)
      have kc2 : ∀ (o : Nat), wc.cell? ⟨w.heap.size + 1 + 1, o, none⟩ = ((((w.alloc (.cells #[.int .i64 px, .int .i64 py, .int .i64 vx, .int .i64 vy] 25)).alloc (.cells #[.int .i64 wx, .int .i64 wy] 23)).alloc (.cells #[.int .i64 S, .int .i64 A, .int .i64 B, .int .i64 H, .int .i64 M] 27)).alloc (.cells #[.int .i64 0, .int .i64 0, .int .i64 0, .int .i64 0] 25)).cell? ⟨w.heap.size + 1 + 1, o, none⟩ := fun o => hb.cell (by simp <;> omega)
      go_wp2_with (first | (go_at_call 36; (with_reducible refine (HD.out _).mono ?_); rintro e w5 ⟨rfl, hb5⟩))
      go_meet
      case rel =>
        have hs5 := hb5.size
        refine ⟨w5.heap.size, rfl, by simp, by omega, by go_simp, by go_simp, by go_simp, by go_simp, ?_⟩
        exact (hb.trans (hb5.mono hb.size)).alloc (by simp <;> omega) _
    case rest =>
      clear HW HD c1 c2 f1 f2 HV
      obtain ⟨g8, rfl, hg8, hgl8, k1, k2, k3, k4, hb8⟩ := hcut
      clear hb hsz
      go_wp2_with fail
      go_loopw [] (fun wr => ∃ (k : Nat) (dx dy : Int), Hid (-(2 : Int) ^ k < dx ∧ dx < 2 ^ k ∧ -(2 : Int) ^ k < dy ∧ dy < 2 ^ k ∧ hlv k vx vy (S * S) dx dy = hlv 21 vx vy (S * S) DX DY) ∧ -2097152 ≤ dx ∧ dx ≤ 2097152 ∧ -2097152 ≤ dy ∧ dy ≤ 2097152 ∧ g8 < wr.heap.size ∧ wr.cell? ⟨g8, 0, none⟩ = some (.int .i64 dx) ∧ wr.cell? ⟨g8, 1, none⟩ = some (.int .i64 dy) ∧ wr.frozen? ⟨g8, 0, none⟩ = false ∧ wr.frozen? ⟨g8, 1, none⟩ = false ∧ Below ((((w.alloc (.cells #[.int .i64 px, .int .i64 py, .int .i64 vx, .int .i64 vy] 25)).alloc (.cells #[.int .i64 wx, .int .i64 wy] 23)).alloc (.cells #[.int .i64 S, .int .i64 A, .int .i64 B, .int .i64 H, .int .i64 M] 27)).alloc (.cells #[.int .i64 0, .int .i64 0, .int .i64 0, .int .i64 0] 25)).heap.size ((((w.alloc (.cells #[.int .i64 px, .int .i64 py, .int .i64 vx, .int .i64 vy] 25)).alloc (.cells #[.int .i64 wx, .int .i64 wy] 23)).alloc (.cells #[.int .i64 S, .int .i64 A, .int .i64 B, .int .i64 H, .int .i64 M] 27)).alloc (.cells #[.int .i64 0, .int .i64 0, .int .i64 0, .int .i64 0] 25)) wr) (fun wr => mcell wr g8)
      case atStart =>
        have e : (2 : Int) ^ 21 = 2097152 := by decide
        exact ⟨21, DX, DY, hid ⟨by omega, by omega, by omega, by omega, rfl⟩, by omega, by omega, by omega, by omega, hg8, k1, k2, k3, k4, hb8⟩
      case round =>
        obtain ⟨k, dx, dy, HH, b1, b2, b3, b4, hgr, e1, e2, e3, e4, hbr⟩ := hrel
        obtain ⟨hq1, hq2⟩ := sq_S s1 s2
        have hsr : w.heap.size + 1 + 1 + 1 < wr.heap.size := by have := hbr.size; simp at this; omega
        have hl0 : ∀ (z : Later wr) (o : Nat), z.val.cell? ⟨w.heap.size, o, none⟩ = ((((w.alloc (.cells #[.int .i64 px, .int .i64 py, .int .i64 vx, .int .i64 vy] 25)).alloc (.cells #[.int .i64 wx, .int .i64 wy] 23)).alloc (.cells #[.int .i64 S, .int .i64 A, .int .i64 B, .int .i64 H, .int .i64 M] 27)).alloc (.cells #[.int .i64 0, .int .i64 0, .int .i64 0, .int .i64 0] 25)).cell? ⟨w.heap.size, o, none⟩ := fun z o => (z.cell (by omega)).trans (hbr.cell (by simp <;> omega))
        have hl2 : ∀ (z : Later wr) (o : Nat), z.val.cell? ⟨w.heap.size + 1 + 1, o, none⟩ = ((((w.alloc (.cells #[.int .i64 px, .int .i64 py, .int .i64 vx, .int .i64 vy] 25)).alloc (.cells #[.int .i64 wx, .int .i64 wy] 23)).alloc (.cells #[.int .i64 S, .int .i64 A, .int .i64 B, .int .i64 H, .int .i64 M] 27)).alloc (.cells #[.int .i64 0, .int .i64 0, .int .i64 0, .int .i64 0] 25)).cell? ⟨w.heap.size + 1 + 1, o, none⟩ := fun z o => (z.cell (by omega)).trans (hbr.cell (by simp <;> omega))
        have hl3 : ∀ (z : Later wr) (o : Nat), z.val.cell? ⟨w.heap.size + 1 + 1 + 1, o, none⟩ = ((((w.alloc (.cells #[.int .i64 px, .int .i64 py, .int .i64 vx, .int .i64 vy] 25)).alloc (.cells #[.int .i64 wx, .int .i64 wy] 23)).alloc (.cells #[.int .i64 S, .int .i64 A, .int .i64 B, .int .i64 H, .int .i64 M] 27)).alloc (.cells #[.int .i64 0, .int .i64 0, .int .i64 0, .int .i64 0] 25)).cell? ⟨w.heap.size + 1 + 1 + 1, o, none⟩ := fun z o => (z.cell (by omega)).trans (hbr.cell (by simp <;> omega))
        have hz3 : ∀ (z : Later wr) (o : Nat), z.val.frozen? ⟨w.heap.size + 1 + 1 + 1, o, none⟩ = ((((w.alloc (.cells #[.int .i64 px, .int .i64 py, .int .i64 vx, .int .i64 vy] 25)).alloc (.cells #[.int .i64 wx, .int .i64 wy] 23)).alloc (.cells #[.int .i64 S, .int .i64 A, .int .i64 B, .int .i64 H, .int .i64 M] 27)).alloc (.cells #[.int .i64 0, .int .i64 0, .int .i64 0, .int .i64 0] 25)).frozen? ⟨w.heap.size + 1 + 1 + 1, o, none⟩ := fun z o => (z.frz (by omega)).trans (hbr.frozen (by simp <;> omega))
        have hl8 : ∀ (z : Later wr) (o : Nat), z.val.cell? ⟨g8, o, none⟩ = wr.cell? ⟨g8, o, none⟩ := fun z o => z.cell hgr
        have hz8 : ∀ (z : Later wr) (o : Nat), z.val.frozen? ⟨g8, o, none⟩ = wr.frozen? ⟨g8, o, none⟩ := fun z o => z.frz hgr
        have CS : ((dx != 0) = true ∧ (dx != 0) = true) ∨ ((dx != 0) = false ∧ (dy != 0) = true) ∨ ((dx != 0) = false ∧ (dy != 0) = false) := by
          by_cases h : dx = 0 <;> by_cases h' : dy = 0 <;> simp [h, h']
        rcases Int.lt_or_le (S * S) (sqr (vx + dx) (vy + dy)) with hs | hs
        · have hsq : decide (S * S < sqr (vx + dx) (vy + dy)) = true := decide_eq_true hs
          have HS := hid hs
          clear hs
          rcases CS with ⟨x1, _⟩ | ⟨x1, x2⟩ | ⟨x1, x2⟩
          · go_wp2_with fail
            refine wp_region_later (Below.refl _ _) (by kernel_rfl) (by kernel_rfl) ?_
            repeat (go_big_quiet_step ((first
              | (go_at_call 37; exact calls_later (sum_any _ _ _ _ (by omega) (by omega) (by omega) (by omega) (by omega) (by omega) (by omega) (by omega) _))
              | (go_at_call 33; exact calls_later (nsquare_any _ _ (by omega) (by omega) (by omega) (by omega) _)))))
            refine wpQuiet_nil ?_
            intro _ hw'
            obtain ⟨y0, hw''⟩ := hw'
            subst hw''
            have hy : w.heap.size + 1 + 1 + 1 < y0.val.heap.size := by have := y0.size; omega
            have hy8 : g8 < y0.val.heap.size := by have := y0.size; omega
            have HT := hid (tdiv2 dx)
            have HT2 := hid (tdiv2 dy)
            go_wp2_with fail
            have hne : ¬ (dx = 0 ∧ dy = 0) := by
              rintro ⟨hh, hh'⟩
              first | exact absurd x1 (by rw [hh]; decide) | exact absurd x2 (by rw [hh']; decide)
            go_roundw
            case rel =>
              cases k with
              | zero =>
                have := HH.out
                simp at this
                exact absurd ⟨by omega, by omega⟩ hne
              | succ k =>
                obtain ⟨p1, p2, p3, p4, p5⟩ := HH.out
                have e : (2 : Int) ^ (k + 1) = 2 ^ k + 2 ^ k := by rw [Int.pow_succ]; omega
                rw [e] at p1 p2 p3 p4
                have t1 := tdiv2_lt p1 p2
                have t2 := tdiv2_lt p3 p4
                have t3 := HT.out
                have t4 := HT2.out
                refine ⟨k, dx.tdiv 2, dy.tdiv 2, hid ⟨t1.1, t1.2, t2.1, t2.2, by rw [← p5, hlv_go]; rintro (h | h); (have := HS.out; omega); exact hne h⟩, ?_, ?_, ?_, ?_, by simpa [World.setCell] using hy8, by go_simp, by go_simp, by go_simp, by go_simp, ((hbr.trans (y0.ok.mono hbr.size)).setCell (by simp <;> omega) _).setCell (by simp <;> omega) _⟩
                · rcases Int.lt_or_le dx 0 with h | h; (have := t3.2 (by omega); omega); (have := t3.1 h; omega)
                · rcases Int.lt_or_le dx 0 with h | h; (have := t3.2 (by omega); omega); (have := t3.1 h; omega)
                · rcases Int.lt_or_le dy 0 with h | h; (have := t4.2 (by omega); omega); (have := t4.1 h; omega)
                · rcases Int.lt_or_le dy 0 with h | h; (have := t4.2 (by omega); omega); (have := t4.1 h; omega)
            case measure =>
              have m := half_lt hne
              simpa [mcell, intOf, go_sem, hl8, hz8, e1, e2, e3, e4] using m
          · go_wp2_with fail
            refine wp_region_later (Below.refl _ _) (by kernel_rfl) (by kernel_rfl) ?_
            repeat (go_big_quiet_step ((first
              | (go_at_call 37; exact calls_later (sum_any _ _ _ _ (by omega) (by omega) (by omega) (by omega) (by omega) (by omega) (by omega) (by omega) _))
              | (go_at_call 33; exact calls_later (nsquare_any _ _ (by omega) (by omega) (by omega) (by omega) _)))))
            refine wpQuiet_nil ?_
            intro _ hw'
            obtain ⟨y0, hw''⟩ := hw'
            subst hw''
            have hy : w.heap.size + 1 + 1 + 1 < y0.val.heap.size := by have := y0.size; omega
            have hy8 : g8 < y0.val.heap.size := by have := y0.size; omega
            have HT := hid (tdiv2 dx)
            have HT2 := hid (tdiv2 dy)
            go_wp2_with fail
            have hne : ¬ (dx = 0 ∧ dy = 0) := by
              rintro ⟨hh, hh'⟩
              first | exact absurd x1 (by rw [hh]; decide) | exact absurd x2 (by rw [hh']; decide)
            go_roundw
            case rel =>
              cases k with
              | zero =>
                have := HH.out
                simp at this
                exact absurd ⟨by omega, by omega⟩ hne
              | succ k =>
                obtain ⟨p1, p2, p3, p4, p5⟩ := HH.out
                have e : (2 : Int) ^ (k + 1) = 2 ^ k + 2 ^ k := by rw [Int.pow_succ]; omega
                rw [e] at p1 p2 p3 p4
                have t1 := tdiv2_lt p1 p2
                have t2 := tdiv2_lt p3 p4
                have t3 := HT.out
                have t4 := HT2.out
                refine ⟨k, dx.tdiv 2, dy.tdiv 2, hid ⟨t1.1, t1.2, t2.1, t2.2, by rw [← p5, hlv_go]; rintro (h | h); (have := HS.out; omega); exact hne h⟩, ?_, ?_, ?_, ?_, by simpa [World.setCell] using hy8, by go_simp, by go_simp, by go_simp, by go_simp, ((hbr.trans (y0.ok.mono hbr.size)).setCell (by simp <;> omega) _).setCell (by simp <;> omega) _⟩
                · rcases Int.lt_or_le dx 0 with h | h; (have := t3.2 (by omega); omega); (have := t3.1 h; omega)
                · rcases Int.lt_or_le dx 0 with h | h; (have := t3.2 (by omega); omega); (have := t3.1 h; omega)
                · rcases Int.lt_or_le dy 0 with h | h; (have := t4.2 (by omega); omega); (have := t4.1 h; omega)
                · rcases Int.lt_or_le dy 0 with h | h; (have := t4.2 (by omega); omega); (have := t4.1 h; omega)
            case measure =>
              have m := half_lt hne
              simpa [mcell, intOf, go_sem, hl8, hz8, e1, e2, e3, e4] using m
          · have z1 : dx = 0 := by simpa using x1
            have z2 : dy = 0 := by simpa using x2
            have hst : Hid (sqr (vx + dx) (vy + dy) ≤ S * S ∨ (dx = 0 ∧ dy = 0)) := hid (Or.inr ⟨z1, z2⟩)
            have hu : -4096 ≤ vx + dx ∧ vx + dx ≤ 4096 ∧ -4096 ≤ vy + dy ∧ vy + dy ≤ 4096 := by omega
            obtain ⟨r1, r2, r3, r4⟩ := hu
            clear z1 z2
            go_wp2_with fail
            refine wp_region_later (Below.refl _ _) (by kernel_rfl) (by kernel_rfl) ?_
            repeat (go_big_quiet_step ((first
              | (go_at_call 37; exact calls_later (sum_any _ _ _ _ (by omega) (by omega) (by omega) (by omega) (by omega) (by omega) (by omega) (by omega) _))
              | (go_at_call 33; exact calls_later (nsquare_any _ _ (by omega) (by omega) (by omega) (by omega) _)))))
            refine wpQuiet_nil ?_
            intro _ hw'
            obtain ⟨y0, hw''⟩ := hw'
            subst hw''
            have hy : w.heap.size + 1 + 1 + 1 < y0.val.heap.size := by have := y0.size; omega
            have hy8 : g8 < y0.val.heap.size := by have := y0.size; omega
            have HE : Hid (hlv 21 vx vy (S * S) DX DY = (dx, dy)) := hid (by
              rw [← HH.out.2.2.2.2]
              exact hlv_stop hst.out)
            have hB : Below w.heap.size w y0.val := box3 (below_box (hbr.trans (y0.ok.mono hbr.size)))
            have hm0 : ∀ (z : Later y0.val) (o : Nat), z.val.cell? ⟨w.heap.size, o, none⟩ = ((((w.alloc (.cells #[.int .i64 px, .int .i64 py, .int .i64 vx, .int .i64 vy] 25)).alloc (.cells #[.int .i64 wx, .int .i64 wy] 23)).alloc (.cells #[.int .i64 S, .int .i64 A, .int .i64 B, .int .i64 H, .int .i64 M] 27)).alloc (.cells #[.int .i64 0, .int .i64 0, .int .i64 0, .int .i64 0] 25)).cell? ⟨w.heap.size, o, none⟩ := fun z o => (z.cell (by omega)).trans (hl0 y0 o)
            have hm3 : ∀ (z : Later y0.val) (o : Nat), z.val.cell? ⟨w.heap.size + 1 + 1 + 1, o, none⟩ = ((((w.alloc (.cells #[.int .i64 px, .int .i64 py, .int .i64 vx, .int .i64 vy] 25)).alloc (.cells #[.int .i64 wx, .int .i64 wy] 23)).alloc (.cells #[.int .i64 S, .int .i64 A, .int .i64 B, .int .i64 H, .int .i64 M] 27)).alloc (.cells #[.int .i64 0, .int .i64 0, .int .i64 0, .int .i64 0] 25)).cell? ⟨w.heap.size + 1 + 1 + 1, o, none⟩ := fun z o => (z.cell (by omega)).trans (hl3 y0 o)
            have hmz : ∀ (z : Later y0.val) (o : Nat), z.val.frozen? ⟨w.heap.size + 1 + 1 + 1, o, none⟩ = ((((w.alloc (.cells #[.int .i64 px, .int .i64 py, .int .i64 vx, .int .i64 vy] 25)).alloc (.cells #[.int .i64 wx, .int .i64 wy] 23)).alloc (.cells #[.int .i64 S, .int .i64 A, .int .i64 B, .int .i64 H, .int .i64 M] 27)).alloc (.cells #[.int .i64 0, .int .i64 0, .int .i64 0, .int .i64 0] 25)).frozen? ⟨w.heap.size + 1 + 1 + 1, o, none⟩ := fun z o => (z.frz (by omega)).trans (hz3 y0 o)
            have hm8 : ∀ (z : Later y0.val) (o : Nat), z.val.cell? ⟨g8, o, none⟩ = wr.cell? ⟨g8, o, none⟩ := fun z o => (z.cell hy8).trans (hl8 y0 o)
            clear hl0 hl2 hl3 hz3 hl8 hz8 hsq
            go_wp2_with fail
            refine wp_region_later_tail 6 (Below.refl _ _) (by kernel_rfl) (by kernel_rfl) ?_
            simp only [List.take_succ_cons, List.take_zero, List.drop_succ_cons, List.drop_zero]
            repeat (go_big_quiet_step ((first
              | (go_at_call 37; exact calls_later (sum_any _ _ _ _ (by omega) (by omega) (by omega) (by omega) (by omega) (by omega) (by omega) (by omega) _))
              | (go_at_call 38; exact calls_later (rtick_any _ _ _ _ _ _ (by omega) (by omega) (by omega) (by omega) (by omega) (by omega) (by omega) (by omega) _)))))
            refine wpQuiet_nil ?_
            intro _ hw'
            obtain ⟨y5, hw''⟩ := hw'
            subst hw''
            go_wp2
            (try simp only [Exit.inBlock, Exit.then])
            refine bodyPost_ret (v := mo (clp (px + (vx + dx))) (clp (py + (vy + dy))) (vx + dx) (vy + dy)) (by simp [results, Try.results17, go_sem, hm3]) rfl ?_
            exact ⟨by rw [HX.out, HY.out, HE.out], ((((hB.trans (y5.ok.mono (by omega))).setCell (by simp <;> omega) _).setCell (by simp <;> omega) _).setCell (by simp <;> omega) _).setCell (by simp <;> omega) _⟩
        · have hsq : decide (S * S < sqr (vx + dx) (vy + dy)) = false := decide_eq_false (by omega)
          have hst : Hid (sqr (vx + dx) (vy + dy) ≤ S * S ∨ (dx = 0 ∧ dy = 0)) := hid (Or.inl hs)
          have hu := abs_of_sqr (by omega) hs
          obtain ⟨r1, r2, r3, r4⟩ := hu
          clear hs CS
          · go_wp2_with fail
            refine wp_region_later (Below.refl _ _) (by kernel_rfl) (by kernel_rfl) ?_
            repeat (go_big_quiet_step ((first
              | (go_at_call 37; exact calls_later (sum_any _ _ _ _ (by omega) (by omega) (by omega) (by omega) (by omega) (by omega) (by omega) (by omega) _))
              | (go_at_call 33; exact calls_later (nsquare_any _ _ (by omega) (by omega) (by omega) (by omega) _)))))
            refine wpQuiet_nil ?_
            intro _ hw'
            obtain ⟨y0, hw''⟩ := hw'
            subst hw''
            have hy : w.heap.size + 1 + 1 + 1 < y0.val.heap.size := by have := y0.size; omega
            have hy8 : g8 < y0.val.heap.size := by have := y0.size; omega
            have HE : Hid (hlv 21 vx vy (S * S) DX DY = (dx, dy)) := hid (by
              rw [← HH.out.2.2.2.2]
              exact hlv_stop hst.out)
            have hB : Below w.heap.size w y0.val := box3 (below_box (hbr.trans (y0.ok.mono hbr.size)))
            have hm0 : ∀ (z : Later y0.val) (o : Nat), z.val.cell? ⟨w.heap.size, o, none⟩ = ((((w.alloc (.cells #[.int .i64 px, .int .i64 py, .int .i64 vx, .int .i64 vy] 25)).alloc (.cells #[.int .i64 wx, .int .i64 wy] 23)).alloc (.cells #[.int .i64 S, .int .i64 A, .int .i64 B, .int .i64 H, .int .i64 M] 27)).alloc (.cells #[.int .i64 0, .int .i64 0, .int .i64 0, .int .i64 0] 25)).cell? ⟨w.heap.size, o, none⟩ := fun z o => (z.cell (by omega)).trans (hl0 y0 o)
            have hm3 : ∀ (z : Later y0.val) (o : Nat), z.val.cell? ⟨w.heap.size + 1 + 1 + 1, o, none⟩ = ((((w.alloc (.cells #[.int .i64 px, .int .i64 py, .int .i64 vx, .int .i64 vy] 25)).alloc (.cells #[.int .i64 wx, .int .i64 wy] 23)).alloc (.cells #[.int .i64 S, .int .i64 A, .int .i64 B, .int .i64 H, .int .i64 M] 27)).alloc (.cells #[.int .i64 0, .int .i64 0, .int .i64 0, .int .i64 0] 25)).cell? ⟨w.heap.size + 1 + 1 + 1, o, none⟩ := fun z o => (z.cell (by omega)).trans (hl3 y0 o)
            have hmz : ∀ (z : Later y0.val) (o : Nat), z.val.frozen? ⟨w.heap.size + 1 + 1 + 1, o, none⟩ = ((((w.alloc (.cells #[.int .i64 px, .int .i64 py, .int .i64 vx, .int .i64 vy] 25)).alloc (.cells #[.int .i64 wx, .int .i64 wy] 23)).alloc (.cells #[.int .i64 S, .int .i64 A, .int .i64 B, .int .i64 H, .int .i64 M] 27)).alloc (.cells #[.int .i64 0, .int .i64 0, .int .i64 0, .int .i64 0] 25)).frozen? ⟨w.heap.size + 1 + 1 + 1, o, none⟩ := fun z o => (z.frz (by omega)).trans (hz3 y0 o)
            have hm8 : ∀ (z : Later y0.val) (o : Nat), z.val.cell? ⟨g8, o, none⟩ = wr.cell? ⟨g8, o, none⟩ := fun z o => (z.cell hy8).trans (hl8 y0 o)
            clear hl0 hl2 hl3 hz3 hl8 hz8 hsq
            go_wp2_with fail
            refine wp_region_later_tail 6 (Below.refl _ _) (by kernel_rfl) (by kernel_rfl) ?_
            simp only [List.take_succ_cons, List.take_zero, List.drop_succ_cons, List.drop_zero]
            repeat (go_big_quiet_step ((first
              | (go_at_call 37; exact calls_later (sum_any _ _ _ _ (by omega) (by omega) (by omega) (by omega) (by omega) (by omega) (by omega) (by omega) _))
              | (go_at_call 38; exact calls_later (rtick_any _ _ _ _ _ _ (by omega) (by omega) (by omega) (by omega) (by omega) (by omega) (by omega) (by omega) _)))))
            refine wpQuiet_nil ?_
            intro _ hw'
            obtain ⟨y5, hw''⟩ := hw'
            subst hw''
            go_wp2
            (try simp only [Exit.inBlock, Exit.then])
            refine bodyPost_ret (v := mo (clp (px + (vx + dx))) (clp (py + (vy + dy))) (vx + dx) (vy + dy)) (by simp [results, Try.results17, go_sem, hm3]) rfl ?_
            exact ⟨by rw [HX.out, HY.out, HE.out], ((((hB.trans (y5.ok.mono (by omega))).setCell (by simp <;> omega) _).setCell (by simp <;> omega) _).setCell (by simp <;> omega) _).setCell (by simp <;> omega) _⟩
end Go.Proofs.Ythfpdlkeagoamaa
