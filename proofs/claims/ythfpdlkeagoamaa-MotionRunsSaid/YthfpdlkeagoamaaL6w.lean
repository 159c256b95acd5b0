import Derived.Test.YthfpdlkeagoamaaWo
import Derived.Test.YthfpdlkeagoamaaFrame3
import Derived.Deep.RegionHeld3
namespace Go.Proofs.Ythfpdlkeagoamaa.motionRuns
open Go.RowKit
set_option linter.unusedVariables false
set_option maxRecDepth 100000 in
set_option maxHeartbeats 2000000 in
theorem long (px py vx vy : Int) (a : Option Addr) (len cap : Nat) (S A B H M : Int) (hlen : 60 < len) (w : World) : Calls Try.prog 8 #[mo px py vx vy, .slice a len cap, lim S A B H M] w fun e w' => e = .returned (.bool true) ∧ Below w.heap.size w w' := by
  have h1 : 60 < (len : Int) := by omega
  go_enter Try.func8, Try.ntmps8
  go_wp2_with (first | (go_at_call 14; refine (awake_any _).mono ?_; rintro e w5 ⟨rfl, hb5⟩))
  go_ret
  exact ⟨rfl, box2 hb5⟩
set_option maxHeartbeats 8000000 in
theorem core (m0 : Mo) (a : Option Addr) (len cap : Nat) (X Y : Nat → Int) (S A B H M : Int) (hlen : len ≤ 60) (w : World) (ha : Hid (Wants w a len X Y)) : Calls Try.prog 8 #[mo m0.px m0.py m0.vx m0.vy, .slice a len cap, lim S A B H M] w fun e w' => e = .returned (.bool true) ∧ Below w.heap.size w w' := by
  have h1 : (len : Int) ≤ 60 := by omega
  have hN60 : runN m0 len S A B H M ≤ 60 := by unfold runN; split <;> omega
  have HNv : Hid (0 < runN m0 len S A B H M → m0.ok S A B H M ∧ runN m0 len S A B H M = len) := hid (fun h => by
    unfold runN at h ⊢
    by_cases e : vld m0.px m0.py m0.vx m0.vy S A B H M = true
    · rw [if_pos e]; exact ⟨e, rfl⟩
    · rw [if_neg e] at h; omega)
  have HR1 := hid (fun w (h : Hid (Wants w a len X Y)) => run_rd m0 a len cap X Y S A B H M hlen w h)
  have HR2 := hid (fun w (h : Hid (Wants w a len X Y)) => rrun_rd m0 a len cap X Y S A B H M hlen w h)
  have HS1 := hid (fun w => stop_rd m0 S A B H M w)
  have HS2 := hid (fun w => rstop_rd m0 S A B H M w)
  have hsN := stopN_le m0 S A B H M
  generalize runN m0 len S A B H M = N at *
  generalize stopN m0 S A B H M = NS at *
  have hN60' : (N : Int) ≤ 60 := by omega
  go_enter Try.func8, Try.ntmps8
  have hWa : Hid (Wants ((w.alloc (.cells #[.int .i64 m0.px, .int .i64 m0.py, .int .i64 m0.vx, .int .i64 m0.vy] 25)).alloc (.cells #[.int .i64 S, .int .i64 A, .int .i64 B, .int .i64 H, .int .i64 M] 27)) a len X Y) := hid (wants_below ha.out (((Below.refl _ _).alloc (Nat.le_refl _) _).alloc (by simp) _))
  go_upto_region 6 with (first
    | (go_at_call 22; (with_reducible refine (HR1.out _ hWa).mono ?_); rintro e w2 ⟨v, rfl, hrd, hb⟩; obtain ⟨hc, hf⟩ := bcell hb; have HRD := hid hrd; clear hrd; have hz : w.heap.size < w2.heap.size := (by have := hb.size; simp at this; omega); have hz' : w.heap.size + 1 < w2.heap.size := (by have := hb.size; simp at this; omega); have hWb : Hid (Wants w2 a len X Y) := hid (wants_below hWa.out hb))
    | (go_at_call 24; (with_reducible refine (HR2.out _ hWb).mono ?_); rintro e w3 ⟨v3, rfl, hrd3, hb3⟩; obtain ⟨hc3, hf3⟩ := bcell hb3; have HRD3 := hid hrd3; clear hrd3; have hz3 := hb3.size; have HRD2 := hid (rd_below HRD.out hb3))
    | (go_at_call 23; (with_reducible refine (same_any _ _ _ _ (by omega) _ HRD2 HRD3).mono ?_); rintro e w4 ⟨rfl, hb4⟩; obtain ⟨hc4, hf4⟩ := bcell hb4; have hz4 := hb4.size; have z3 : w.heap.size < w3.heap.size := (by omega); have z3' : w.heap.size + 1 < w3.heap.size := (by omega)))
  have HRD4 := hid (rd_below HRD2.out hb4)
  have hW4 : Hid (Wants w4 a len X Y) := hid (wants_below hWb.out (below_then hb3 hb4))
  have HB4 : Below w.heap.size w w4 := ((box2 hb).trans (hb3.mono (by omega))).trans (hb4.mono (by omega))
  have hlow : w.heap.size + 1 < w4.heap.size := by omega
  have l0 : ∀ j, w4.cell? ⟨w.heap.size + 1, j, none⟩ = ((w.alloc (.cells #[.int .i64 m0.px, .int .i64 m0.py, .int .i64 m0.vx, .int .i64 m0.vy] 25)).alloc (.cells #[.int .i64 S, .int .i64 A, .int .i64 B, .int .i64 H, .int .i64 M] 27)).cell? ⟨w.heap.size + 1, j, none⟩ := fun j => (hc4 _ _ z3').trans ((hc3 _ _ hz').trans (hc _ _ (by simp <;> omega)))
  have l1 : ∀ j, w4.cell? ⟨w.heap.size, j, none⟩ = ((w.alloc (.cells #[.int .i64 m0.px, .int .i64 m0.py, .int .i64 m0.vx, .int .i64 m0.vy] 25)).alloc (.cells #[.int .i64 S, .int .i64 A, .int .i64 B, .int .i64 H, .int .i64 M] 27)).cell? ⟨w.heap.size, j, none⟩ := fun j => (hc4 _ _ z3).trans ((hc3 _ _ hz).trans (hc _ _ (by simp <;> omega)))
  clear hc hf hc3 hf3 hc4 hf4 hb hb3 hb4 HRD HRD2 HRD3 hWa hWb HR1 HR2 hz hz' hz3 hz4 z3 z3'
  go_wp2_with fail
  go_loopw [9] (fun s9 wr => ∃ (k : Nat) (m : Mo), s9 = .int .i64 k ∧ k ≤ N ∧ Hid (m = rit S A X Y k m0) ∧ w4.heap.size < wr.heap.size ∧ wr.cell? ⟨w4.heap.size, 0, none⟩ = some (.int .i64 m.px) ∧ wr.cell? ⟨w4.heap.size, 1, none⟩ = some (.int .i64 m.py) ∧ wr.cell? ⟨w4.heap.size, 2, none⟩ = some (.int .i64 m.vx) ∧ wr.cell? ⟨w4.heap.size, 3, none⟩ = some (.int .i64 m.vy) ∧ wr.frozen? ⟨w4.heap.size, 0, none⟩ = false ∧ wr.frozen? ⟨w4.heap.size, 1, none⟩ = false ∧ wr.frozen? ⟨w4.heap.size, 2, none⟩ = false ∧ wr.frozen? ⟨w4.heap.size, 3, none⟩ = false ∧ Below w4.heap.size w4 wr) (fun s9 _ => N - (intOf s9).toNat)
  case atStart =>
    exact ⟨0, m0, rfl, Nat.zero_le _, hid rfl, by simp, by go_simp, by go_simp, by go_simp, by go_simp, by go_simp, by go_simp, by go_simp, by go_simp, (Below.refl _ _).alloc (Nat.le_refl _) _⟩
  case round =>
    obtain ⟨k, m, rfl, hk, HM, hgr, c0, c1, c2, c3, f0, f1, f2, f3, hb⟩ := hrel
    obtain ⟨va, vcap, hv, hv2⟩ := HRD4.out
    subst hv
    have HV2 := hid hv2
    clear hv2
    by_cases hkT : k < N
    · obtain ⟨hok, hNl⟩ := HNv.out (by omega)
      obtain ⟨b, off, rfl, hbw, hcell⟩ := hW4.out (by omega)
      obtain ⟨x0, x1⟩ := hcell k (by omega)
      clear hcell
      obtain ⟨g, rfl, hg, hgc⟩ := HV2.out (by omega)
      obtain ⟨y0, y1, y2, y3⟩ := hgc k hkT
      clear hgc
      have hkI : (k : Int) < (N : Int) := by omega
      have hkL : (k : Int) < (len : Int) := by omega
      have hkI0 : (0 : Int) ≤ (k : Int) := by omega
      have hmk : m.ok S A B H M := by rw [HM.out]; exact rit_ok hok X Y k
      have HB := hid (fun w => pstep_mo m hmk (X k) (Y k) w)
      have HNM : Hid (st1 S A (X k) (Y k) m = rit S A X Y (k + 1) m0) := hid (by rw [HM.out]; rfl)
      dsimp only at y0 y1 y2 y3
      rw [← HNM.out] at y0 y1 y2 y3
      clear hmk hok hNl
      generalize st1 S A (X k) (Y k) m = nx at *
      go_upto_region 10 with fail
      have rm0 : ∀ (z : Later wr), z.val.cell? ⟨w4.heap.size, 0, none⟩ = some (.int .i64 m.px) := fun z => (z.cell hgr).trans c0
      have rm1 : ∀ (z : Later wr), z.val.cell? ⟨w4.heap.size, 1, none⟩ = some (.int .i64 m.py) := fun z => (z.cell hgr).trans c1
      have rm2 : ∀ (z : Later wr), z.val.cell? ⟨w4.heap.size, 2, none⟩ = some (.int .i64 m.vx) := fun z => (z.cell hgr).trans c2
      have rm3 : ∀ (z : Later wr), z.val.cell? ⟨w4.heap.size, 3, none⟩ = some (.int .i64 m.vy) := fun z => (z.cell hgr).trans c3
      have rl : ∀ (z : Later wr) (j : Nat), z.val.cell? ⟨w.heap.size + 1, j, none⟩ = ((w.alloc (.cells #[.int .i64 m0.px, .int .i64 m0.py, .int .i64 m0.vx, .int .i64 m0.vy] 25)).alloc (.cells #[.int .i64 S, .int .i64 A, .int .i64 B, .int .i64 H, .int .i64 M] 27)).cell? ⟨w.heap.size + 1, j, none⟩ := fun z j => (z.cell (by omega)).trans ((hb.cell hlow).trans (l0 j))
      have rx0 : ∀ (z : Later wr), z.val.cell? ⟨b, off + k * 2, none⟩ = some (.int .i64 (X k)) := fun z => (z.cell (by omega)).trans ((hb.cell hbw).trans x0)
      have rx1 : ∀ (z : Later wr), z.val.cell? ⟨b, off + k * 2 + 1, none⟩ = some (.int .i64 (Y k)) := fun z => (z.cell (by omega)).trans ((hb.cell hbw).trans x1)
      have hff : ∀ (z : Later wr) (j : Nat), z.val.frozen? ⟨w4.heap.size, j, none⟩ = wr.frozen? ⟨w4.heap.size, j, none⟩ := fun z j => z.frz hgr
      have ry : ∀ (z : Later wr) (j : Nat), z.val.cell? ⟨g, j, none⟩ = w4.cell? ⟨g, j, none⟩ := fun z j => (z.cell (by omega)).trans (hb.cell hg)
      clear c0 c1 c2 c3 x0 x1
      refine wp_region_later_tail (w0 := wr) 7 (Below.refl _ _) (by kernel_rfl) (by kernel_rfl) ?_
      simp only [List.take_succ_cons, List.take_zero, List.drop_succ_cons, List.drop_zero]
      repeat (go_big_quiet_step ((go_at_call 15; with_reducible exact calls_later (HB.out _))))
      refine wpQuiet_nil ?_
      intro _ hw'
      obtain ⟨y9, hw''⟩ := hw'
      subst hw''
      go_upto_region 11 with fail
      obtain ⟨p0, p1, p2, p3⟩ := set4_cells (rm0 y9) (rm1 y9) (rm2 y9) (rm3 y9) (.int .i64 nx.px) (.int .i64 nx.py) (.int .i64 nx.vx) (.int .i64 nx.vy)
      have hsz5 : ((((y9.val.setCell ⟨w4.heap.size, 0, none⟩ (.int .i64 nx.px)).setCell ⟨w4.heap.size, 1, none⟩ (.int .i64 nx.py)).setCell ⟨w4.heap.size, 2, none⟩ (.int .i64 nx.vx)).setCell ⟨w4.heap.size, 3, none⟩ (.int .i64 nx.vy)).heap.size = y9.val.heap.size := set4_size _ _ _ _ _ _
      have hs9 := y9.size
      have hB5 : Below w4.heap.size w4 ((((y9.val.setCell ⟨w4.heap.size, 0, none⟩ (.int .i64 nx.px)).setCell ⟨w4.heap.size, 1, none⟩ (.int .i64 nx.py)).setCell ⟨w4.heap.size, 2, none⟩ (.int .i64 nx.vx)).setCell ⟨w4.heap.size, 3, none⟩ (.int .i64 nx.vy)) := ((((hb.trans (y9.ok.mono (by omega))).setCell (Nat.le_refl _) _).setCell (Nat.le_refl _) _).setCell (Nat.le_refl _) _).setCell (Nat.le_refl _) _
      have hfz : ∀ j, ((((y9.val.setCell ⟨w4.heap.size, 0, none⟩ (.int .i64 nx.px)).setCell ⟨w4.heap.size, 1, none⟩ (.int .i64 nx.py)).setCell ⟨w4.heap.size, 2, none⟩ (.int .i64 nx.vx)).setCell ⟨w4.heap.size, 3, none⟩ (.int .i64 nx.vy)).frozen? ⟨w4.heap.size, j, none⟩ = wr.frozen? ⟨w4.heap.size, j, none⟩ := fun j => (set4_frz rfl).trans (hff y9 j)
      have rq0 : ∀ (z : Later ((((y9.val.setCell ⟨w4.heap.size, 0, none⟩ (.int .i64 nx.px)).setCell ⟨w4.heap.size, 1, none⟩ (.int .i64 nx.py)).setCell ⟨w4.heap.size, 2, none⟩ (.int .i64 nx.vx)).setCell ⟨w4.heap.size, 3, none⟩ (.int .i64 nx.vy))), z.val.cell? ⟨w4.heap.size, 0, none⟩ = some (.int .i64 nx.px) := fun z => (z.cell (by omega)).trans p0
      have rq1 : ∀ (z : Later ((((y9.val.setCell ⟨w4.heap.size, 0, none⟩ (.int .i64 nx.px)).setCell ⟨w4.heap.size, 1, none⟩ (.int .i64 nx.py)).setCell ⟨w4.heap.size, 2, none⟩ (.int .i64 nx.vx)).setCell ⟨w4.heap.size, 3, none⟩ (.int .i64 nx.vy))), z.val.cell? ⟨w4.heap.size, 1, none⟩ = some (.int .i64 nx.py) := fun z => (z.cell (by omega)).trans p1
      have rq2 : ∀ (z : Later ((((y9.val.setCell ⟨w4.heap.size, 0, none⟩ (.int .i64 nx.px)).setCell ⟨w4.heap.size, 1, none⟩ (.int .i64 nx.py)).setCell ⟨w4.heap.size, 2, none⟩ (.int .i64 nx.vx)).setCell ⟨w4.heap.size, 3, none⟩ (.int .i64 nx.vy))), z.val.cell? ⟨w4.heap.size, 2, none⟩ = some (.int .i64 nx.vx) := fun z => (z.cell (by omega)).trans p2
      have rq3 : ∀ (z : Later ((((y9.val.setCell ⟨w4.heap.size, 0, none⟩ (.int .i64 nx.px)).setCell ⟨w4.heap.size, 1, none⟩ (.int .i64 nx.py)).setCell ⟨w4.heap.size, 2, none⟩ (.int .i64 nx.vx)).setCell ⟨w4.heap.size, 3, none⟩ (.int .i64 nx.vy))), z.val.cell? ⟨w4.heap.size, 3, none⟩ = some (.int .i64 nx.vy) := fun z => (z.cell (by omega)).trans p3
      have rg0 : ∀ (z : Later ((((y9.val.setCell ⟨w4.heap.size, 0, none⟩ (.int .i64 nx.px)).setCell ⟨w4.heap.size, 1, none⟩ (.int .i64 nx.py)).setCell ⟨w4.heap.size, 2, none⟩ (.int .i64 nx.vx)).setCell ⟨w4.heap.size, 3, none⟩ (.int .i64 nx.vy))), z.val.cell? ⟨g, k * 4, none⟩ = some (.int .i64 nx.px) := fun z => (z.cell (by omega)).trans ((hB5.cell hg).trans y0)
      have rg1 : ∀ (z : Later ((((y9.val.setCell ⟨w4.heap.size, 0, none⟩ (.int .i64 nx.px)).setCell ⟨w4.heap.size, 1, none⟩ (.int .i64 nx.py)).setCell ⟨w4.heap.size, 2, none⟩ (.int .i64 nx.vx)).setCell ⟨w4.heap.size, 3, none⟩ (.int .i64 nx.vy))), z.val.cell? ⟨g, k * 4 + 1, none⟩ = some (.int .i64 nx.py) := fun z => (z.cell (by omega)).trans ((hB5.cell hg).trans y1)
      have rg2 : ∀ (z : Later ((((y9.val.setCell ⟨w4.heap.size, 0, none⟩ (.int .i64 nx.px)).setCell ⟨w4.heap.size, 1, none⟩ (.int .i64 nx.py)).setCell ⟨w4.heap.size, 2, none⟩ (.int .i64 nx.vx)).setCell ⟨w4.heap.size, 3, none⟩ (.int .i64 nx.vy))), z.val.cell? ⟨g, k * 4 + 2, none⟩ = some (.int .i64 nx.vx) := fun z => (z.cell (by omega)).trans ((hB5.cell hg).trans y2)
      have rg3 : ∀ (z : Later ((((y9.val.setCell ⟨w4.heap.size, 0, none⟩ (.int .i64 nx.px)).setCell ⟨w4.heap.size, 1, none⟩ (.int .i64 nx.py)).setCell ⟨w4.heap.size, 2, none⟩ (.int .i64 nx.vx)).setCell ⟨w4.heap.size, 3, none⟩ (.int .i64 nx.vy))), z.val.cell? ⟨g, k * 4 + 3, none⟩ = some (.int .i64 nx.vy) := fun z => (z.cell (by omega)).trans ((hB5.cell hg).trans y3)
      have rqf : ∀ (z : Later ((((y9.val.setCell ⟨w4.heap.size, 0, none⟩ (.int .i64 nx.px)).setCell ⟨w4.heap.size, 1, none⟩ (.int .i64 nx.py)).setCell ⟨w4.heap.size, 2, none⟩ (.int .i64 nx.vx)).setCell ⟨w4.heap.size, 3, none⟩ (.int .i64 nx.vy))) (j : Nat), z.val.frozen? ⟨w4.heap.size, j, none⟩ = wr.frozen? ⟨w4.heap.size, j, none⟩ := fun z j => (z.frz (by omega)).trans (hfz j)
      have q1 : ∀ w, (binOp .neq 25 (mo nx.px nx.py nx.vx nx.vy) (mo nx.px nx.py nx.vx nx.vy)).run Try.prog w = .ok (.bool false) w := fun w => by rw [neq_mo]; simp
      clear p0 p1 p2 p3 rm0 rm1 rm2 rm3 rl rx0 rx1 hff ry hfz y0 y1 y2 y3
      refine wp_region_later (w0 := ((((y9.val.setCell ⟨w4.heap.size, 0, none⟩ (.int .i64 nx.px)).setCell ⟨w4.heap.size, 1, none⟩ (.int .i64 nx.py)).setCell ⟨w4.heap.size, 2, none⟩ (.int .i64 nx.vx)).setCell ⟨w4.heap.size, 3, none⟩ (.int .i64 nx.vy))) (Below.refl _ _) (by kernel_rfl) (by kernel_rfl) ?_
      repeat (go_big_quiet_step (fail))
      refine wpQuiet_nil ?_
      intro _ hw'
      obtain ⟨z0, hw''⟩ := hw'
      subst hw''
      clear q1
      go_wp2_with fail
      go_roundw
      case rel =>
        exact ⟨k + 1, nx, by go_num, by omega, HNM, by have := z0.size; omega, rq0 z0, rq1 z0, rq2 z0, rq3 z0, (rqf z0 0).trans f0, (rqf z0 1).trans f1, (rqf z0 2).trans f2, (rqf z0 3).trans f3, hB5.trans (z0.ok.mono (by omega))⟩
      case measure => simp [intOf]; omega
    · have k0 : ∀ j, wr.cell? ⟨w.heap.size, j, none⟩ = ((w.alloc (.cells #[.int .i64 m0.px, .int .i64 m0.py, .int .i64 m0.vx, .int .i64 m0.vy] 25)).alloc (.cells #[.int .i64 S, .int .i64 A, .int .i64 B, .int .i64 H, .int .i64 M] 27)).cell? ⟨w.heap.size, j, none⟩ := fun j => (hb.cell (by dsimp only; omega)).trans (l1 j)
      have k1 : ∀ j, wr.cell? ⟨w.heap.size + 1, j, none⟩ = ((w.alloc (.cells #[.int .i64 m0.px, .int .i64 m0.py, .int .i64 m0.vx, .int .i64 m0.vy] 25)).alloc (.cells #[.int .i64 S, .int .i64 A, .int .i64 B, .int .i64 H, .int .i64 M] 27)).cell? ⟨w.heap.size + 1, j, none⟩ := fun j => (hb.cell hlow).trans (l0 j)
      have k00 : wr.cell? ⟨w.heap.size, 0, none⟩ = some (.int .i64 m0.px) := (k0 0).trans (by simp [go_sem])
      have k01 : wr.cell? ⟨w.heap.size, 1, none⟩ = some (.int .i64 m0.py) := (k0 1).trans (by simp [go_sem])
      have k02 : wr.cell? ⟨w.heap.size, 2, none⟩ = some (.int .i64 m0.vx) := (k0 2).trans (by simp [go_sem])
      have k03 : wr.cell? ⟨w.heap.size, 3, none⟩ = some (.int .i64 m0.vy) := (k0 3).trans (by simp [go_sem])
      have k10 : wr.cell? ⟨w.heap.size + 1, 0, none⟩ = some (.int .i64 S) := (k1 0).trans (by simp [go_sem])
      have k11 : wr.cell? ⟨w.heap.size + 1, 1, none⟩ = some (.int .i64 A) := (k1 1).trans (by simp [go_sem])
      have k12 : wr.cell? ⟨w.heap.size + 1, 2, none⟩ = some (.int .i64 B) := (k1 2).trans (by simp [go_sem])
      have k13 : wr.cell? ⟨w.heap.size + 1, 3, none⟩ = some (.int .i64 H) := (k1 3).trans (by simp [go_sem])
      have k14 : wr.cell? ⟨w.heap.size + 1, 4, none⟩ = some (.int .i64 M) := (k1 4).trans (by simp [go_sem])
      clear k0 k1 c0 c1 c2 c3 f0 f1 f2 f3 l0 l1
      go_upto_region 13 with fail
      have n0 : w.heap.size < wr.heap.size := by omega
      have n1 : w.heap.size + 1 < wr.heap.size := by omega
      have KEEP : ∀ w', Below wr.heap.size wr w' → (w'.cell? ⟨w.heap.size, 0, none⟩ = some (.int .i64 m0.px) ∧ w'.cell? ⟨w.heap.size, 1, none⟩ = some (.int .i64 m0.py) ∧ w'.cell? ⟨w.heap.size, 2, none⟩ = some (.int .i64 m0.vx) ∧ w'.cell? ⟨w.heap.size, 3, none⟩ = some (.int .i64 m0.vy) ∧ w'.cell? ⟨w.heap.size + 1, 0, none⟩ = some (.int .i64 S) ∧ w'.cell? ⟨w.heap.size + 1, 1, none⟩ = some (.int .i64 A) ∧ w'.cell? ⟨w.heap.size + 1, 2, none⟩ = some (.int .i64 B) ∧ w'.cell? ⟨w.heap.size + 1, 3, none⟩ = some (.int .i64 H) ∧ w'.cell? ⟨w.heap.size + 1, 4, none⟩ = some (.int .i64 M)) := fun w' hb' => ⟨(hb'.cell n0).trans k00, (hb'.cell n0).trans k01, (hb'.cell n0).trans k02, (hb'.cell n0).trans k03, (hb'.cell n1).trans k10, (hb'.cell n1).trans k11, (hb'.cell n1).trans k12, (hb'.cell n1).trans k13, (hb'.cell n1).trans k14⟩
      have HK := hid KEEP
      clear KEEP
      go_region_held3 (fun w' => w'.cell? ⟨w.heap.size, 0, none⟩ = some (.int .i64 m0.px) ∧ w'.cell? ⟨w.heap.size, 1, none⟩ = some (.int .i64 m0.py) ∧ w'.cell? ⟨w.heap.size, 2, none⟩ = some (.int .i64 m0.vx) ∧ w'.cell? ⟨w.heap.size, 3, none⟩ = some (.int .i64 m0.vy) ∧ w'.cell? ⟨w.heap.size + 1, 0, none⟩ = some (.int .i64 S) ∧ w'.cell? ⟨w.heap.size + 1, 1, none⟩ = some (.int .i64 A) ∧ w'.cell? ⟨w.heap.size + 1, 2, none⟩ = some (.int .i64 B) ∧ w'.cell? ⟨w.heap.size + 1, 3, none⟩ = some (.int .i64 H) ∧ w'.cell? ⟨w.heap.size + 1, 4, none⟩ = some (.int .i64 M)) (first | exact HK.out _ (Below.refl _ _).drew | exact HK.out _ (Below.refl _ _) | exact HK.out _ HBZ | exact HK.out _ HBY | exact HK.out _ HBX | exact HK.out _ HBW | go_keep) (first
        | (go_at_call 20; (with_reducible refine (HS1.out _).mono ?_); rintro e z1 ⟨u1, rfl, hr1, hb1⟩; have HR1 := hid hr1; clear hr1; have HBZ : Below wr.heap.size wr z1 := ⟨hb1.os, hb1.tape, hb1.output, hb1.size, hb1.block⟩)
        | (go_at_call 25; (with_reducible refine (HS2.out _).mono ?_); rintro e z2 ⟨u2, rfl, hr2, hb2⟩; have HR2 := hid hr2; clear hr2; have HR1' := hid (rd_below HR1.out hb2); have HBY : Below wr.heap.size wr z2 := below_then HBZ hb2)
        | (go_at_call 23; (with_reducible refine (same_any _ _ _ _ hsN _ HR1' HR2).mono ?_); rintro e z3 ⟨rfl, hb3⟩; have HBX : Below wr.heap.size wr z3 := below_then HBY hb3)
        | (go_at_call 14; (with_reducible refine (awake_any _).mono ?_); rintro e z4 ⟨rfl, hb4⟩; have HBW : Below wr.heap.size wr z4 := below_then HBX hb4))
      go_wp2_with fail
      go_ret
      exact ⟨rfl, (HB4.trans (hb.mono (by omega))).trans (HBW.mono (by omega))⟩
end Go.Proofs.Ythfpdlkeagoamaa.motionRuns
