import Derived.Test.YthfpdlkeagoamaaWl
import Derived.Test.YthfpdlkeagoamaaFrame3
import Derived.Test.YthfpdlkeagoamaaFresh
import Derived.Deep.DeepCutAuto
namespace Go.Proofs.Ythfpdlkeagoamaa.motionLimits
open Go.RowKit
set_option linter.unusedVariables false
theorem frz_alloc {w : World} {o : Obj} {b j : Nat} (h : b < w.heap.size) : (w.alloc o).frozen? ⟨b, j, none⟩ = w.frozen? ⟨b, j, none⟩ := ((Below.refl w.heap.size w).alloc (Nat.le_refl _) o).frozen (p := ⟨b, j, none⟩) h
theorem i64_range' {a : Int} (h : (Lit.int .i64 a).wf = true) : -9223372036854775808 ≤ a ∧ a ≤ 9223372036854775807 := i64_range h
theorem step_spec {qx qy ux uy wx wy S A B H M : Int} (ev : vld qx qy ux uy S A B H M = true) : ∃ n3 n4 : Int, Hid (∀ w, Calls Try.prog 15 #[mo qx qy ux uy, pt wx wy, lim S A B H M] w fun e w' => e = .returned (mo (clp (qx + n3)) (clp (qy + n4)) n3 n4) ∧ Below w.heap.size w w') ∧ vld (clp (qx + n3)) (clp (qy + n4)) n3 n4 S A B H M = true ∧ sqr (n3 - ux) (n4 - uy) ≤ A * A := by
  obtain ⟨k1, p1, p2, p3, p4, hv⟩ := vld_true ev
  obtain ⟨s1, s2, a1, a2, _⟩ := chk_true k1
  obtain ⟨v1, v2, v3, v4⟩ := vld_abs ev
  refine ⟨stpX ux uy wx wy S A, stpY ux uy wx wy S A, hid (step_yes qx qy ux uy wx wy S A B H M ev), ?_, stp_accel (by omega) (by omega) v1 v2 v3 v4⟩
  have r1 := clp_range (qx + stpX ux uy wx wy S A)
  have r2 := clp_range (qy + stpY ux uy wx wy S A)
  exact vld_of k1 r1.1 r1.2 r2.1 r2.2 (stp_speed (by omega) (by omega) v1 v2 v3 v4 hv)
theorem awake_end (sl : Value) (px py vx vy S A B H M : Int) (w : World) : True := trivial
set_option maxRecDepth 100000 in
set_option maxHeartbeats 8000000 in
theorem core (px py vx vy : Int) (a : Option Addr) (len cap : Nat) (X Y : Nat → Int) (S A B H M : Int) (hlen : len ≤ 60) (ev : vld px py vx vy S A B H M = true) (w : World)
    (ha : Hid (0 < len → ∃ b off, a = some ⟨b, off, none⟩ ∧ b < w.heap.size ∧ ∀ i, i < len → w.cell? ⟨b, off + i * 2, none⟩ = some (.int .i64 (X i)) ∧ w.cell? ⟨b, off + (i * 2 + 1), none⟩ = some (.int .i64 (Y i)))) :
    Calls Try.prog 4 #[mo px py vx vy, .slice a len cap, lim S A B H M] w fun e w' => e = .returned (.bool true) ∧ Below w.heap.size w w' := by
  have HV := hid (rvalid_of ev)
  have HE := hid ev
  clear ev
  have hlen' : (len : Int) ≤ 60 := by omega
  go_enter Try.func4, Try.ntmps4
  go_upto_region 3 with (first | (go_at_call 13; (with_reducible refine (HV.out _).mono ?_); rintro e w2 ⟨rfl, hb⟩; obtain ⟨hc, hf⟩ := bcell hb; have hz : w.heap.size + 1 < w2.heap.size := (by have := hb.size; simp at this; omega)))
  clear HV
  go_wp2_with fail
  go_loopw [7] (fun s7 wr => ∃ (k : Nat) (qx qy ux uy : Int), s7 = .int .i64 k ∧ k ≤ len ∧ Hid (vld qx qy ux uy S A B H M = true) ∧ w.heap.size + 1 < wr.heap.size ∧ wr.cell? ⟨w.heap.size, 0, none⟩ = some (.int .i64 qx) ∧ wr.cell? ⟨w.heap.size, 1, none⟩ = some (.int .i64 qy) ∧ wr.cell? ⟨w.heap.size, 2, none⟩ = some (.int .i64 ux) ∧ wr.cell? ⟨w.heap.size, 3, none⟩ = some (.int .i64 uy) ∧ wr.frozen? ⟨w.heap.size, 0, none⟩ = false ∧ wr.frozen? ⟨w.heap.size, 1, none⟩ = false ∧ wr.frozen? ⟨w.heap.size, 2, none⟩ = false ∧ wr.frozen? ⟨w.heap.size, 3, none⟩ = false ∧ wr.cell? ⟨w.heap.size + 1, 0, none⟩ = some (.int .i64 S) ∧ wr.cell? ⟨w.heap.size + 1, 1, none⟩ = some (.int .i64 A) ∧ wr.cell? ⟨w.heap.size + 1, 2, none⟩ = some (.int .i64 B) ∧ wr.cell? ⟨w.heap.size + 1, 3, none⟩ = some (.int .i64 H) ∧ wr.cell? ⟨w.heap.size + 1, 4, none⟩ = some (.int .i64 M) ∧ Below w.heap.size w wr) (fun s7 _ => len - (intOf s7).toNat)
  case atStart =>
    exact ⟨0, px, py, vx, vy, rfl, by omega, HE, hz, (hc _ _ (by simp <;> omega)).trans (by simp [go_sem]), (hc _ _ (by simp <;> omega)).trans (by simp [go_sem]), (hc _ _ (by simp <;> omega)).trans (by simp [go_sem]), (hc _ _ (by simp <;> omega)).trans (by simp [go_sem]), (hf _ _ (by simp <;> omega)).trans (by simp [go_sem]), (hf _ _ (by simp <;> omega)).trans (by simp [go_sem]), (hf _ _ (by simp <;> omega)).trans (by simp [go_sem]), (hf _ _ (by simp <;> omega)).trans (by simp [go_sem]), (hc _ _ (by simp <;> omega)).trans (by simp [go_sem]), (hc _ _ (by simp <;> omega)).trans (by simp [go_sem]), (hc _ _ (by simp <;> omega)).trans (by simp [go_sem]), (hc _ _ (by simp <;> omega)).trans (by simp [go_sem]), (hc _ _ (by simp <;> omega)).trans (by simp [go_sem]), box2 hb⟩
  case round =>
    clear hb hc hf hz HE
    obtain ⟨k, qx, qy, ux, uy, rfl, hk, HE, hz, c0, c1, c2, c3, f0, f1, f2, f3, l0, l1, l2, l3, l4, hb⟩ := hrel
    by_cases hkT : k < len
    · obtain ⟨b, off, rfl, hbw, hcell⟩ := ha.out (by omega)
      obtain ⟨x0, x1⟩ := hcell k hkT
      clear hcell
      have hkI : (k : Int) < (len : Int) := by omega
      have hkI0 : (0 : Int) ≤ (k : Int) := by omega
      obtain ⟨n3, n4, HN, hvn, hacc⟩ := step_spec (wx := X k) (wy := Y k) HE.out
      obtain ⟨k1, p1, p2, p3, p4, hv⟩ := vld_true HE.out
      obtain ⟨s1, s2, a1, a2, _⟩ := chk_true k1
      obtain ⟨v1, v2, v3, v4⟩ := vld_abs HE.out
      obtain ⟨m1, m2, m3, m4⟩ := vld_abs hvn
      have HVN := hid hvn
      have b1 := sq_self_nonneg (n3 - ux)
      have b2 := sq_self_nonneg (n4 - uy)
      have b3 := sq_abs_le (x := n3 - ux) (b := 8192) (by omega) (by omega)
      have b4 := sq_abs_le (x := n4 - uy) (b := 8192) (by omega) (by omega)
      obtain ⟨b5, b6⟩ := sq_S (S := A) a1 (by omega)
      have hacc' : (n3 - ux) * (n3 - ux) + (n4 - uy) * (n4 - uy) ≤ A * A := hacc
      clear hvn k1 hv hacc
      go_upto_region 6 with fail
      go_cut [8] (fun s8 wq => ∃ g : Nat, s8 = .pointer (some ⟨g, 0, none⟩) ∧ g < wq.heap.size ∧ w.heap.size + 1 < g ∧ wq.cell? ⟨g, 0, none⟩ = some (.int .i64 (clp (qx + n3))) ∧ wq.cell? ⟨g, 1, none⟩ = some (.int .i64 (clp (qy + n4))) ∧ wq.cell? ⟨g, 2, none⟩ = some (.int .i64 n3) ∧ wq.cell? ⟨g, 3, none⟩ = some (.int .i64 n4) ∧ wq.frozen? ⟨g, 0, none⟩ = false ∧ wq.frozen? ⟨g, 1, none⟩ = false ∧ wq.frozen? ⟨g, 2, none⟩ = false ∧ wq.frozen? ⟨g, 3, none⟩ = false ∧ Below wr.heap.size wr wq)
      case first =>
        refine wp_region_fresh 7 8 (fun _ => .cells #[.int .i64 0, .int .i64 0, .int .i64 0, .int .i64 0] 25) (by kernel_rfl) (by kernel_rfl) (by omega) (by kernel_rfl) ?_
        apply Exists.intro
        refine ⟨fun v1 kb1 => ?_, ?_⟩
        · have ks1 := kb1.size
          have ry0 : ∀ (z : Later v1), z.val.cell? ⟨b, off + k * 2, none⟩ = some (.int .i64 (X k)) := fun z => (z.cell (by omega)).trans ((kb1.cell (by dsimp only; omega)).trans ((hb.cell hbw).trans x0))
          have ry1 : ∀ (z : Later v1), z.val.cell? ⟨b, off + k * 2 + 1, none⟩ = some (.int .i64 (Y k)) := fun z => (z.cell (by omega)).trans ((kb1.cell (by dsimp only; omega)).trans ((hb.cell hbw).trans x1))
          have rm0 : ∀ (z : Later v1), z.val.cell? ⟨w.heap.size, 0, none⟩ = some (.int .i64 qx) := fun z => (z.cell (by omega)).trans ((kb1.cell (by dsimp only; omega)).trans c0)
          have rm1 : ∀ (z : Later v1), z.val.cell? ⟨w.heap.size, 1, none⟩ = some (.int .i64 qy) := fun z => (z.cell (by omega)).trans ((kb1.cell (by dsimp only; omega)).trans c1)
          have rm2 : ∀ (z : Later v1), z.val.cell? ⟨w.heap.size, 2, none⟩ = some (.int .i64 ux) := fun z => (z.cell (by omega)).trans ((kb1.cell (by dsimp only; omega)).trans c2)
          have rm3 : ∀ (z : Later v1), z.val.cell? ⟨w.heap.size, 3, none⟩ = some (.int .i64 uy) := fun z => (z.cell (by omega)).trans ((kb1.cell (by dsimp only; omega)).trans c3)
          have rl0 : ∀ (z : Later v1), z.val.cell? ⟨w.heap.size + 1, 0, none⟩ = some (.int .i64 S) := fun z => (z.cell (by omega)).trans ((kb1.cell (by dsimp only; omega)).trans l0)
          have rl1 : ∀ (z : Later v1), z.val.cell? ⟨w.heap.size + 1, 1, none⟩ = some (.int .i64 A) := fun z => (z.cell (by omega)).trans ((kb1.cell (by dsimp only; omega)).trans l1)
          have rl2 : ∀ (z : Later v1), z.val.cell? ⟨w.heap.size + 1, 2, none⟩ = some (.int .i64 B) := fun z => (z.cell (by omega)).trans ((kb1.cell (by dsimp only; omega)).trans l2)
          have rl3 : ∀ (z : Later v1), z.val.cell? ⟨w.heap.size + 1, 3, none⟩ = some (.int .i64 H) := fun z => (z.cell (by omega)).trans ((kb1.cell (by dsimp only; omega)).trans l3)
          have rl4 : ∀ (z : Later v1), z.val.cell? ⟨w.heap.size + 1, 4, none⟩ = some (.int .i64 M) := fun z => (z.cell (by omega)).trans ((kb1.cell (by dsimp only; omega)).trans l4)
          simp only [List.take_succ_cons, List.take_zero]
          repeat (go_big_quiet_step (((first | (go_at_call 15; with_reducible exact calls_later (HN.out _))))))
          exact wpQuiet_nil rfl
        · simp only [List.take_succ_cons, List.take_zero, List.drop_succ_cons, List.drop_zero]
          refine wpHead_new (by decide) rfl (run_alloc25 _ _ _ _ _ _) (fun g hg e1 => ?_)
          intro w' hS
          have b1 := (hS.own g _ upd_same).2
          have g1 := hS.lt (g := g) upd_same
          obtain ⟨c1, f1⟩ := block_cells b1
          have hbb := hS.below
          have q0 := c1 0
          have q1 := c1 1
          have q2 := c1 2
          have q3 := c1 3
          simp only [List.getElem?_toArray, List.getElem?_cons_zero, List.getElem?_cons_succ] at q0 q1 q2 q3
          clear c1 b1 hS e1
          simp only [Act.put, List.setIfInBounds_toArray, List.set_cons_zero, List.set_cons_succ]
          go_wp2
          go_meet
          case rel =>
            refine ⟨g, rfl, by simpa [World.setCell] using g1, by omega, ?_, ?_, ?_, ?_, ?_, ?_, ?_, ?_, ?_⟩
            · go_simp
            · go_simp
            · go_simp
            · go_simp
            · go_simp
            · go_simp
            · go_simp
            · go_simp
            · exact ((((hbb.setCell hg _).setCell hg _).setCell hg _).setCell hg _)
      case rest =>
        obtain ⟨g, rfl, hg, hgl, n0c, n1c, n2c, n3c, _, _, _, _, hbx⟩ := hcut
        obtain ⟨hcx, hfx⟩ := bcell hbx
        have hsx := hbx.size
        have hzx : w.heap.size < wr.heap.size := by omega
        have HV1 := hid (rvalid_of HVN.out)
        have HV2 := hid (valid_of HVN.out)
        go_upto_region 10 with (first
          | (go_at_call 13; (with_reducible refine (HV1.out _).mono ?_); rintro e w5 ⟨rfl, hb5⟩; obtain ⟨hc5, hf5⟩ := bcell hb5; have hs5 := hb5.size; have z5 : g < w5.heap.size := (by omega); have z5a : w.heap.size < w5.heap.size := (by omega); have z5b : w.heap.size + 1 < w5.heap.size := (by omega); have z5c : w.heap.size < wc.heap.size := (by omega); have z5d : w.heap.size + 1 < wc.heap.size := (by omega))
          | (go_at_call 12; (with_reducible refine (HV2.out _).mono ?_); rintro e w6 ⟨rfl, hb6⟩; obtain ⟨hc6, hf6⟩ := bcell hb6; have hs6 := hb6.size; have z6 : g < w6.heap.size := (by omega); have z6a : w.heap.size < w6.heap.size := (by omega); have z6b : w.heap.size + 1 < w6.heap.size := (by omega)))
        have HB : Below w.heap.size w (w6.alloc (.cells #[.int .i64 (n3 - ux), .int .i64 (n4 - uy)] 23)) := (((hb.trans (hbx.mono (by omega))).trans (hb5.mono (by omega))).trans (hb6.mono (by omega))).alloc (by omega) _
        have rm0 : ∀ (z : Later (w6.alloc (.cells #[.int .i64 (n3 - ux), .int .i64 (n4 - uy)] 23))), z.val.cell? ⟨w.heap.size, 0, none⟩ = some (.int .i64 qx) := fun z => (z.cell (by rw [alloc_size]; omega)).trans ((World.cell?_alloc_lt _ _ _ (by dsimp only; omega)).trans ((hc6 _ _ (by omega)).trans ((hc5 _ _ (by omega)).trans ((hcx _ _ (by omega)).trans c0))))
        have rm1 : ∀ (z : Later (w6.alloc (.cells #[.int .i64 (n3 - ux), .int .i64 (n4 - uy)] 23))), z.val.cell? ⟨w.heap.size, 1, none⟩ = some (.int .i64 qy) := fun z => (z.cell (by rw [alloc_size]; omega)).trans ((World.cell?_alloc_lt _ _ _ (by dsimp only; omega)).trans ((hc6 _ _ (by omega)).trans ((hc5 _ _ (by omega)).trans ((hcx _ _ (by omega)).trans c1))))
        have rm2 : ∀ (z : Later (w6.alloc (.cells #[.int .i64 (n3 - ux), .int .i64 (n4 - uy)] 23))), z.val.cell? ⟨w.heap.size, 2, none⟩ = some (.int .i64 ux) := fun z => (z.cell (by rw [alloc_size]; omega)).trans ((World.cell?_alloc_lt _ _ _ (by dsimp only; omega)).trans ((hc6 _ _ (by omega)).trans ((hc5 _ _ (by omega)).trans ((hcx _ _ (by omega)).trans c2))))
        have rm3 : ∀ (z : Later (w6.alloc (.cells #[.int .i64 (n3 - ux), .int .i64 (n4 - uy)] 23))), z.val.cell? ⟨w.heap.size, 3, none⟩ = some (.int .i64 uy) := fun z => (z.cell (by rw [alloc_size]; omega)).trans ((World.cell?_alloc_lt _ _ _ (by dsimp only; omega)).trans ((hc6 _ _ (by omega)).trans ((hc5 _ _ (by omega)).trans ((hcx _ _ (by omega)).trans c3))))
        have rl0 : ∀ (z : Later (w6.alloc (.cells #[.int .i64 (n3 - ux), .int .i64 (n4 - uy)] 23))), z.val.cell? ⟨w.heap.size + 1, 0, none⟩ = some (.int .i64 S) := fun z => (z.cell (by rw [alloc_size]; omega)).trans ((World.cell?_alloc_lt _ _ _ (by dsimp only; omega)).trans ((hc6 _ _ (by omega)).trans ((hc5 _ _ (by omega)).trans ((hcx _ _ (by omega)).trans l0))))
        have rl1 : ∀ (z : Later (w6.alloc (.cells #[.int .i64 (n3 - ux), .int .i64 (n4 - uy)] 23))), z.val.cell? ⟨w.heap.size + 1, 1, none⟩ = some (.int .i64 A) := fun z => (z.cell (by rw [alloc_size]; omega)).trans ((World.cell?_alloc_lt _ _ _ (by dsimp only; omega)).trans ((hc6 _ _ (by omega)).trans ((hc5 _ _ (by omega)).trans ((hcx _ _ (by omega)).trans l1))))
        have rl2 : ∀ (z : Later (w6.alloc (.cells #[.int .i64 (n3 - ux), .int .i64 (n4 - uy)] 23))), z.val.cell? ⟨w.heap.size + 1, 2, none⟩ = some (.int .i64 B) := fun z => (z.cell (by rw [alloc_size]; omega)).trans ((World.cell?_alloc_lt _ _ _ (by dsimp only; omega)).trans ((hc6 _ _ (by omega)).trans ((hc5 _ _ (by omega)).trans ((hcx _ _ (by omega)).trans l2))))
        have rl3 : ∀ (z : Later (w6.alloc (.cells #[.int .i64 (n3 - ux), .int .i64 (n4 - uy)] 23))), z.val.cell? ⟨w.heap.size + 1, 3, none⟩ = some (.int .i64 H) := fun z => (z.cell (by rw [alloc_size]; omega)).trans ((World.cell?_alloc_lt _ _ _ (by dsimp only; omega)).trans ((hc6 _ _ (by omega)).trans ((hc5 _ _ (by omega)).trans ((hcx _ _ (by omega)).trans l3))))
        have rl4 : ∀ (z : Later (w6.alloc (.cells #[.int .i64 (n3 - ux), .int .i64 (n4 - uy)] 23))), z.val.cell? ⟨w.heap.size + 1, 4, none⟩ = some (.int .i64 M) := fun z => (z.cell (by rw [alloc_size]; omega)).trans ((World.cell?_alloc_lt _ _ _ (by dsimp only; omega)).trans ((hc6 _ _ (by omega)).trans ((hc5 _ _ (by omega)).trans ((hcx _ _ (by omega)).trans l4))))
        have rn0 : ∀ (z : Later (w6.alloc (.cells #[.int .i64 (n3 - ux), .int .i64 (n4 - uy)] 23))), z.val.cell? ⟨g, 0, none⟩ = some (.int .i64 (clp (qx + n3))) := fun z => (z.cell (by rw [alloc_size]; omega)).trans ((World.cell?_alloc_lt _ _ _ (by dsimp only; omega)).trans ((hc6 _ _ (by omega)).trans ((hc5 _ _ (by omega)).trans n0c)))
        have rn1 : ∀ (z : Later (w6.alloc (.cells #[.int .i64 (n3 - ux), .int .i64 (n4 - uy)] 23))), z.val.cell? ⟨g, 1, none⟩ = some (.int .i64 (clp (qy + n4))) := fun z => (z.cell (by rw [alloc_size]; omega)).trans ((World.cell?_alloc_lt _ _ _ (by dsimp only; omega)).trans ((hc6 _ _ (by omega)).trans ((hc5 _ _ (by omega)).trans n1c)))
        have rn2 : ∀ (z : Later (w6.alloc (.cells #[.int .i64 (n3 - ux), .int .i64 (n4 - uy)] 23))), z.val.cell? ⟨g, 2, none⟩ = some (.int .i64 n3) := fun z => (z.cell (by rw [alloc_size]; omega)).trans ((World.cell?_alloc_lt _ _ _ (by dsimp only; omega)).trans ((hc6 _ _ (by omega)).trans ((hc5 _ _ (by omega)).trans n2c)))
        have rn3 : ∀ (z : Later (w6.alloc (.cells #[.int .i64 (n3 - ux), .int .i64 (n4 - uy)] 23))), z.val.cell? ⟨g, 3, none⟩ = some (.int .i64 n4) := fun z => (z.cell (by rw [alloc_size]; omega)).trans ((World.cell?_alloc_lt _ _ _ (by dsimp only; omega)).trans ((hc6 _ _ (by omega)).trans ((hc5 _ _ (by omega)).trans n3c)))
        have rx : ∀ (z : Later (w6.alloc (.cells #[.int .i64 (n3 - ux), .int .i64 (n4 - uy)] 23))) (o : Nat), z.val.cell? ⟨w6.heap.size, o, none⟩ = (w6.alloc (.cells #[.int .i64 (n3 - ux), .int .i64 (n4 - uy)] 23)).cell? ⟨w6.heap.size, o, none⟩ := fun z o => z.cell (by rw [alloc_size]; omega)
        have hff : ∀ (z : Later (w6.alloc (.cells #[.int .i64 (n3 - ux), .int .i64 (n4 - uy)] 23))) (j : Nat), z.val.frozen? ⟨w.heap.size, j, none⟩ = wr.frozen? ⟨w.heap.size, j, none⟩ := fun z j => (z.frz (by rw [alloc_size]; omega)).trans ((frz_alloc (by omega)).trans ((hf6 _ _ (by omega)).trans ((hf5 _ _ (by omega)).trans (hfx _ _ (by omega)))))
        have q1 : ∀ w, (binOp .neq 23 (pt (clp (qx + n3)) (clp (qy + n4))) (pt (clp (qx + n3)) (clp (qy + n4)))).run Try.prog w = .ok (.bool false) w := fun w => by rw [neq_pt]; simp
        have d0 : decide (A * A < (n3 - ux) * (n3 - ux) + (n4 - uy) * (n4 - uy)) = false := decide_eq_false (by omega)
        clear hcx hfx hc5 hf5 hc6 hf6 c0 c1 c2 c3 l0 l1 l2 l3 l4 x0 x1 n0c n1c n2c n3c HV1 HV2 HN
        refine wp_region_later (w0 := (w6.alloc (.cells #[.int .i64 (n3 - ux), .int .i64 (n4 - uy)] 23))) (Below.refl _ _) (by kernel_rfl) (by kernel_rfl) ?_
        repeat (go_big_quiet_step ((first | (go_at_call 16; exact calls_later (rclamp_any _ _ _)))))
        refine wpQuiet_nil ?_
        intro _ hw'
        obtain ⟨y0, hw''⟩ := hw'
        subst hw''
        have hy : w.heap.size + 1 < y0.val.heap.size := by have := y0.size; rw [alloc_size] at this; omega
        clear q1 d0
        go_wp2_with fail
        go_roundw
        case rel =>
          refine ⟨k + 1, clp (qx + n3), clp (qy + n4), n3, n4, by go_num, by omega, HVN, by simpa [World.setCell] using hy, by go_simp, by go_simp, by go_simp, by go_simp, by go_simp, by go_simp, by go_simp, by go_simp, by go_simp, by go_simp, by go_simp, by go_simp, by go_simp, ((((HB.trans (y0.ok.mono (by rw [alloc_size]; omega))).setCell (by simp) _).setCell (by simp) _).setCell (by simp) _).setCell (by simp) _⟩
        case measure => simp [intOf]; omega
    · go_wp2_with (first | (go_at_call 14; refine (awake_any _).mono ?_; rintro e w5 ⟨rfl, hb5⟩))
      go_ret
      exact ⟨rfl, hb.trans (hb5.mono (by omega))⟩
end Go.Proofs.Ythfpdlkeagoamaa.motionLimits
