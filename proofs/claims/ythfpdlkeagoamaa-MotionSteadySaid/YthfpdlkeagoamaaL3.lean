/- The law MotionSteady returns true for every input; its arguments read afterwards as before. No condition. -/
import Derived.Test.YthfpdlkeagoamaaWl
import Derived.Test.YthfpdlkeagoamaaFrame3
import Derived.Test.YthfpdlkeagoamaaRows
namespace Go.Proofs.Ythfpdlkeagoamaa.motionSteady
open Go.ChangeShapes Go.WideShapes Go.ChangeAt Go.RowKit

set_option linter.unusedVariables false
theorem frz_alloc {w : World} {o : Obj} {b j : Nat} (h : b < w.heap.size) : (w.alloc o).frozen? ⟨b, j, none⟩ = w.frozen? ⟨b, j, none⟩ := ((Below.refl w.heap.size w).alloc (Nat.le_refl _) o).frozen (p := ⟨b, j, none⟩) h
theorem u8_range {a : Int} (h : (Lit.int .u8 a).wf = true) : 0 ≤ a ∧ a ≤ 255 := by
  simp [Lit.wf, IntKind.min, IntKind.max, IntKind.signed, IntKind.bits] at h
  omega
set_option maxHeartbeats 4000000 in
theorem walk (px : Int) (py : Int) (vx : Int) (vy : Int) (hpx : (Lit.int .i64 px).wf = true) (hpy : (Lit.int .i64 py).wf = true) (hvx : (Lit.int .i64 vx).wf = true) (hvy : (Lit.int .i64 vy).wf = true) (S : Int) (A : Int) (B : Int) (H : Int) (M : Int) (hS : (Lit.int .i64 S).wf = true) (hA : (Lit.int .i64 A).wf = true) (hB : (Lit.int .i64 B).wf = true) (hH : (Lit.int .i64 H).wf = true) (hM : (Lit.int .i64 M).wf = true) (t : Int) (ht : (Lit.int .u8 t).wf = true) (w : World) : Calls Try.prog 5 #[mo px py vx vy, lim S A B H M, .int .u8 t] w fun e w' => e = .returned (.bool true) ∧ Below w.heap.size w w' := by
  clear hpx hpy hvx hvy hS hA hB hH hM
  obtain ⟨t1, t2⟩ := u8_range ht
  cases ev : vld px py vx vy S A B H M with
  | false =>
    have HV := hid (rvalid_of ev)
    clear ev ht
    go_enter Try.func5, Try.ntmps5
    go_wp2_with (first
      | (go_at_call 13; (with_reducible refine (HV.out _).mono ?_); rintro e w2 ⟨rfl, hb⟩)
      | (go_at_call 14; refine (awake_any _).mono ?_; rintro e w3 ⟨rfl, hb3⟩))
    go_ret
    exact ⟨rfl, (box2 hb).trans (hb3.mono (by have := hb.size; simp at this; omega))⟩
  | true =>
    have HV := hid (rvalid_of ev)
    have HE := hid ev
    clear ev ht
    obtain ⟨T, hT⟩ : ∃ T : Int, t % 60 = T := ⟨_, rfl⟩
    have hT1 : 0 ≤ T := by omega
    have hT2 : T ≤ 59 := by omega
    go_enter Try.func5, Try.ntmps5
    go_upto_region 3 with (first | (go_at_call 13; (with_reducible refine (HV.out _).mono ?_); rintro e w2 ⟨rfl, hb⟩; obtain ⟨hc, hf⟩ := bcell hb; have hz : w.heap.size + 1 < w2.heap.size := (by have := hb.size; simp at this; omega)))
    clear HV
    go_wp2_with fail
    go_loopw [7] (fun s7 wr => ∃ (k : Nat) (qx qy : Int), s7 = .int .i64 k ∧ (k : Int) ≤ T ∧ Hid (vld qx qy vx vy S A B H M = true) ∧ w.heap.size + 1 < wr.heap.size ∧ wr.cell? ⟨w.heap.size, 0, none⟩ = some (.int .i64 qx) ∧ wr.cell? ⟨w.heap.size, 1, none⟩ = some (.int .i64 qy) ∧ wr.cell? ⟨w.heap.size, 2, none⟩ = some (.int .i64 vx) ∧ wr.cell? ⟨w.heap.size, 3, none⟩ = some (.int .i64 vy) ∧ wr.frozen? ⟨w.heap.size, 0, none⟩ = false ∧ wr.frozen? ⟨w.heap.size, 1, none⟩ = false ∧ wr.frozen? ⟨w.heap.size, 2, none⟩ = false ∧ wr.frozen? ⟨w.heap.size, 3, none⟩ = false ∧ wr.cell? ⟨w.heap.size + 1, 0, none⟩ = some (.int .i64 S) ∧ wr.cell? ⟨w.heap.size + 1, 1, none⟩ = some (.int .i64 A) ∧ wr.cell? ⟨w.heap.size + 1, 2, none⟩ = some (.int .i64 B) ∧ wr.cell? ⟨w.heap.size + 1, 3, none⟩ = some (.int .i64 H) ∧ wr.cell? ⟨w.heap.size + 1, 4, none⟩ = some (.int .i64 M) ∧ Below w.heap.size w wr) (fun s7 _ => (T - intOf s7).toNat)
    case atStart =>
      exact ⟨0, px, py, rfl, by omega, HE, hz, (hc _ _ (by simp <;> omega)).trans (by simp [go_sem]), (hc _ _ (by simp <;> omega)).trans (by simp [go_sem]), (hc _ _ (by simp <;> omega)).trans (by simp [go_sem]), (hc _ _ (by simp <;> omega)).trans (by simp [go_sem]), (hf _ _ (by simp <;> omega)).trans (by simp [go_sem]), (hf _ _ (by simp <;> omega)).trans (by simp [go_sem]), (hf _ _ (by simp <;> omega)).trans (by simp [go_sem]), (hf _ _ (by simp <;> omega)).trans (by simp [go_sem]), (hc _ _ (by simp <;> omega)).trans (by simp [go_sem]), (hc _ _ (by simp <;> omega)).trans (by simp [go_sem]), (hc _ _ (by simp <;> omega)).trans (by simp [go_sem]), (hc _ _ (by simp <;> omega)).trans (by simp [go_sem]), (hc _ _ (by simp <;> omega)).trans (by simp [go_sem]), box2 hb⟩
    case round =>
      clear hb hc hf hz HE
      obtain ⟨k, qx, qy, rfl, hk, HE, hz, c0, c1, c2, c3, f0, f1, f2, f3, l0, l1, l2, l3, l4, hb⟩ := hrel
      by_cases hkT : (k : Int) < T
      · have HN := hid (fun w => step_yes qx qy vx vy vx vy S A B H M HE.out w)
        obtain ⟨k1, p1, p2, p3, p4, hv⟩ := vld_true HE.out
        obtain ⟨s1, s2, a1, a2, _⟩ := chk_true k1
        obtain ⟨e1, e2⟩ := stp_steady (S := S) (A := A) (by omega) (by omega) (by omega) hv
        obtain ⟨v1, v2, v3, v4⟩ := vld_abs HE.out
        rw [e1, e2] at HN
        have r1 := clp_range (qx + vx)
        have r2 := clp_range (qy + vy)
        have HE2 : Hid (vld (clp (qx + vx)) (clp (qy + vy)) vx vy S A B H M = true) := hid (vld_of k1 r1.1 r1.2 r2.1 r2.2 hv)
        have q1 : ∀ w, (binOp .neq 23 (pt vx vy) (pt vx vy)).run Try.prog w = .ok (.bool false) w := fun w => by rw [neq_pt]; simp
        have q2 : ∀ w, (binOp .neq 23 (pt (clp (qx + vx)) (clp (qy + vy))) (pt (clp (qx + vx)) (clp (qy + vy)))).run Try.prog w = .ok (.bool false) w := fun w => by rw [neq_pt]; simp
        clear e1 e2 hv k1 r1 r2
        go_upto_region 7 with (first | (go_at_call 15; (with_reducible refine (HN.out _).mono ?_); rintro e w3 ⟨rfl, hb3⟩; obtain ⟨hc3, hf3⟩ := bcell hb3; have hs3 := hb3.size))
        clear HN
        have rm0 : ∀ (z : Later (w3.alloc (.cells #[.int .i64 (clp (qx + vx)), .int .i64 (clp (qy + vy)), .int .i64 vx, .int .i64 vy] 25))), z.val.cell? ⟨w.heap.size, 0, none⟩ = some (.int .i64 qx) := fun z => (z.cell (by rw [alloc_size]; omega)).trans ((World.cell?_alloc_lt _ _ _ (by dsimp only; omega)).trans ((hc3 _ _ (by omega)).trans c0))
        have rm1 : ∀ (z : Later (w3.alloc (.cells #[.int .i64 (clp (qx + vx)), .int .i64 (clp (qy + vy)), .int .i64 vx, .int .i64 vy] 25))), z.val.cell? ⟨w.heap.size, 1, none⟩ = some (.int .i64 qy) := fun z => (z.cell (by rw [alloc_size]; omega)).trans ((World.cell?_alloc_lt _ _ _ (by dsimp only; omega)).trans ((hc3 _ _ (by omega)).trans c1))
        have rm2 : ∀ (z : Later (w3.alloc (.cells #[.int .i64 (clp (qx + vx)), .int .i64 (clp (qy + vy)), .int .i64 vx, .int .i64 vy] 25))), z.val.cell? ⟨w.heap.size, 2, none⟩ = some (.int .i64 vx) := fun z => (z.cell (by rw [alloc_size]; omega)).trans ((World.cell?_alloc_lt _ _ _ (by dsimp only; omega)).trans ((hc3 _ _ (by omega)).trans c2))
        have rm3 : ∀ (z : Later (w3.alloc (.cells #[.int .i64 (clp (qx + vx)), .int .i64 (clp (qy + vy)), .int .i64 vx, .int .i64 vy] 25))), z.val.cell? ⟨w.heap.size, 3, none⟩ = some (.int .i64 vy) := fun z => (z.cell (by rw [alloc_size]; omega)).trans ((World.cell?_alloc_lt _ _ _ (by dsimp only; omega)).trans ((hc3 _ _ (by omega)).trans c3))
        have rl0 : ∀ (z : Later (w3.alloc (.cells #[.int .i64 (clp (qx + vx)), .int .i64 (clp (qy + vy)), .int .i64 vx, .int .i64 vy] 25))), z.val.cell? ⟨w.heap.size + 1, 0, none⟩ = some (.int .i64 S) := fun z => (z.cell (by rw [alloc_size]; omega)).trans ((World.cell?_alloc_lt _ _ _ (by dsimp only; omega)).trans ((hc3 _ _ (by omega)).trans l0))
        have rl1 : ∀ (z : Later (w3.alloc (.cells #[.int .i64 (clp (qx + vx)), .int .i64 (clp (qy + vy)), .int .i64 vx, .int .i64 vy] 25))), z.val.cell? ⟨w.heap.size + 1, 1, none⟩ = some (.int .i64 A) := fun z => (z.cell (by rw [alloc_size]; omega)).trans ((World.cell?_alloc_lt _ _ _ (by dsimp only; omega)).trans ((hc3 _ _ (by omega)).trans l1))
        have rl2 : ∀ (z : Later (w3.alloc (.cells #[.int .i64 (clp (qx + vx)), .int .i64 (clp (qy + vy)), .int .i64 vx, .int .i64 vy] 25))), z.val.cell? ⟨w.heap.size + 1, 2, none⟩ = some (.int .i64 B) := fun z => (z.cell (by rw [alloc_size]; omega)).trans ((World.cell?_alloc_lt _ _ _ (by dsimp only; omega)).trans ((hc3 _ _ (by omega)).trans l2))
        have rl3 : ∀ (z : Later (w3.alloc (.cells #[.int .i64 (clp (qx + vx)), .int .i64 (clp (qy + vy)), .int .i64 vx, .int .i64 vy] 25))), z.val.cell? ⟨w.heap.size + 1, 3, none⟩ = some (.int .i64 H) := fun z => (z.cell (by rw [alloc_size]; omega)).trans ((World.cell?_alloc_lt _ _ _ (by dsimp only; omega)).trans ((hc3 _ _ (by omega)).trans l3))
        have rl4 : ∀ (z : Later (w3.alloc (.cells #[.int .i64 (clp (qx + vx)), .int .i64 (clp (qy + vy)), .int .i64 vx, .int .i64 vy] 25))), z.val.cell? ⟨w.heap.size + 1, 4, none⟩ = some (.int .i64 M) := fun z => (z.cell (by rw [alloc_size]; omega)).trans ((World.cell?_alloc_lt _ _ _ (by dsimp only; omega)).trans ((hc3 _ _ (by omega)).trans l4))
        have hff : ∀ (z : Later (w3.alloc (.cells #[.int .i64 (clp (qx + vx)), .int .i64 (clp (qy + vy)), .int .i64 vx, .int .i64 vy] 25))) (j : Nat), z.val.frozen? ⟨w.heap.size, j, none⟩ = wr.frozen? ⟨w.heap.size, j, none⟩ := fun z j => (z.frz (by rw [alloc_size]; omega)).trans ((frz_alloc (by omega)).trans (hf3 _ _ (by omega)))
        have rx : ∀ (z : Later (w3.alloc (.cells #[.int .i64 (clp (qx + vx)), .int .i64 (clp (qy + vy)), .int .i64 vx, .int .i64 vy] 25))) (o : Nat), z.val.cell? ⟨w3.heap.size, o, none⟩ = (w3.alloc (.cells #[.int .i64 (clp (qx + vx)), .int .i64 (clp (qy + vy)), .int .i64 vx, .int .i64 vy] 25)).cell? ⟨w3.heap.size, o, none⟩ := fun z o => z.cell (by rw [alloc_size]; omega)
        have hB : Below w.heap.size w (w3.alloc (.cells #[.int .i64 (clp (qx + vx)), .int .i64 (clp (qy + vy)), .int .i64 vx, .int .i64 vy] 25)) := (hb.trans (hb3.mono (by omega))).alloc (by omega) _
        clear hc3 hf3 c0 c1 c2 c3 l0 l1 l2 l3 l4
        refine wp_region_later (w0 := (w3.alloc (.cells #[.int .i64 (clp (qx + vx)), .int .i64 (clp (qy + vy)), .int .i64 vx, .int .i64 vy] 25))) (Below.refl _ _) (by kernel_rfl) (by kernel_rfl) ?_
        repeat (go_big_quiet_step ((first | (go_at_call 16; exact calls_later (rclamp_any _ _ _)))))
        refine wpQuiet_nil ?_
        intro _ hw'
        obtain ⟨y0, hw''⟩ := hw'
        subst hw''
        have hy : w.heap.size + 1 < y0.val.heap.size := by have := y0.size; rw [alloc_size] at this; omega
        clear q1 q2
        go_wp2_with fail
        go_roundw
        case rel =>
          refine ⟨k + 1, clp (qx + vx), clp (qy + vy), by go_num, by omega, HE2, by simpa [World.setCell] using hy, by go_simp, by go_simp, by go_simp, by go_simp, by go_simp, by go_simp, by go_simp, by go_simp, by go_simp, by go_simp, by go_simp, by go_simp, by go_simp, ((((hB.trans (y0.ok.mono (by rw [alloc_size]; omega))).setCell (by simp) _).setCell (by simp) _).setCell (by simp) _).setCell (by simp) _⟩
        case measure => simp [intOf]; omega
      · go_wp2_with (first | (go_at_call 14; refine (awake_any _).mono ?_; rintro e w5 ⟨rfl, hb5⟩))
        go_ret
        exact ⟨rfl, hb.trans (hb5.mono (by omega))⟩

theorem own : ownKnob Try.prog.godebug = none := by kernel_rfl
set_option maxRecDepth 100000 in
theorem lifted (os : Os) (started : os.Started) (H : Type) (enc : TypeId × Value → H) :
    ReturnsInHanded {} Try.checked os 5 .any (Rows.motionSteadySpec.pre6 enc Try.prog Try.f5 Rows.motionSteadyRow.domain false) (Rows.motionSteadySpec.post enc Try.prog Try.f5 false true false false) := by
  refine returnsInHanded_of_change (C := Try.checked) own started (by kernel_rfl) Try.func5
    (ChangeSpec.witness6 (enc := enc) (C := Try.checked) false ⟨#[], #[.agg #[.int .i64 0, .int .i64 0, .int .i64 0, .int .i64 0], .agg #[.int .i64 0, .int .i64 0, .int .i64 0, .int .i64 0, .int .i64 0], .int .u8 0], []⟩ 8 (by kernel_rfl) (by kernel_rfl) (by kernel_rfl) (by kernel_rfl)) ?_
  intro W base args ds gs before hval0 hW _ _
  have hval : ∀ (j : Nat) t v, Try.f5.params[j]? = some t → args[j]? = some v → Value.okWide Try.prog W .any base t v := hval0
  have hW' := hW
  obtain ⟨p, q, hA0, hV, rfl, hfz, hnd⟩ := hW
  have hA : DataW.TrodAll enc Try.prog W 0 (fun _ => true) true Try.f5.params.toList args.toList ds p := hA0
  rw [Try.params5] at hA hval
  obtain ⟨v0, vs0, d0, ds0, p0, q0, hargs, rfl, rfl, h0, r0⟩ := trodAll_cons hA
  obtain ⟨v1, vs1, d1, ds1, p1, q1, rfl, rfl, rfl, h1, r1⟩ := trodAll_cons r0
  obtain ⟨v2, vs2, d2, ds2, p2, q2, rfl, rfl, rfl, h2, r2⟩ := trodAll_cons r1
  obtain ⟨rfl, rfl, rfl⟩ := trodAll_nil r2
  obtain rfl : args = #[v0, v1, v2] := by cases args; simp_all
  obtain ⟨rfl, rfl⟩ := trodVars_none hV
  obtain ⟨a00, a01, a02, a03, rfl, w00, w01, w02, w03⟩ := open_mo Try.underlying25 (by kernel_rfl) rfl rfl rfl rfl (by kernel_rfl) Try.underlying23 (by kernel_rfl) Try.underlying3 rfl rfl (hval 0 25 v0 rfl rfl) h0
  obtain ⟨a10, a11, a12, a13, a14, rfl, w10, w11, w12, w13, w14⟩ := open_ints5 Try.underlying27 (by kernel_rfl) (by kernel_rfl) Try.underlying3 rfl rfl rfl rfl rfl (hval 1 27 v1 rfl rfl) h1
  obtain ⟨a2, rfl, rfl, rfl, w2⟩ := open_int Try.underlying5 (hval 2 5 v2 rfl rfl) h2
  refine (walk a00 a01 a02 a03 w00 w01 w02 w03 a10 a11 a12 a13 a14 w10 w11 w12 w13 w14 a2 w2 W).mono fun e W' ⟨he, hb⟩ => ?_
  subst he
  exact ⟨_, rfl, law_post (by kernel_rfl) (by kernel_rfl) rfl (show Try.f5.resultTypes = #[4] by kernel_rfl) Try.underlying4 hW' rfl rfl rfl hb⟩
theorem over : Rows.motionSteadyRow.holds Try.pinned (OpenSpec.ofChange Rows.motionSteadySpec) :=
  OpenClaim.holds_of_wide 5 Try.f5 rfl rfl rfl rfl rfl rfl rfl ⟨rfl, rfl, rfl, rfl, rfl⟩ rfl rfl rfl rfl rfl (by kernel_rfl) Try.func5 (by kernel_rfl)
    (of_decide_eq_true (by kernel_rfl)) (by unfold Func.isWrapper; first | (rw [if_pos (by decide +kernel)]; kernel_rfl) | (rw [if_neg (by decide +kernel)]; exact ⟨rfl, rfl⟩))
    (fun os started H enc _ => lifted os started H enc)
/-- THE STATEMENT. -/
theorem proved : Rows.MotionSteadySaid := over
#print axioms proved
end Go.Proofs.Ythfpdlkeagoamaa.motionSteady
