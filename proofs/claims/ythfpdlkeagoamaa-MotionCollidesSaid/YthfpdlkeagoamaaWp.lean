/- Walks: cells of a grid, collisions. -/
import Derived.Test.YthfpdlkeagoamaaWl
namespace Go.Proofs.Ythfpdlkeagoamaa
open Go.RowKit
set_option linter.unusedVariables false
theorem tdiv_neg {a b : Int} (h : a < 0) (hb : 1 ≤ b) : a ≤ a.tdiv b ∧ a.tdiv b ≤ 0 ∧ (a.tmod b < 0 → a.tdiv b - 1 = a / b ∧ a ≤ a.tdiv b - 1) ∧ (¬ a.tmod b < 0 → a.tdiv b = a / b) := by
  have h1 := (tdiv_bound (a := a) (b := b) (by omega)).2 (by omega)
  have e1 : a.tdiv b * b + a.tmod b = a := by rw [Int.mul_comm]; exact Int.mul_tdiv_add_tmod a b
  have h4 : -b < a.tmod b := by
    have e : a.tmod b = -((-a).tmod b) := by rw [Int.neg_tmod]; omega
    have := Int.tmod_lt_of_pos (-a) (show 0 < b by omega)
    omega
  have h5 : a.tmod b ≤ 0 := by omega
  have h7 : a.tdiv b * b ≤ a.tdiv b := by
    have : 0 ≤ (-(a.tdiv b)) * (b - 1) := Int.mul_nonneg (by omega) (by omega)
    have e : (-(a.tdiv b)) * (b - 1) = a.tdiv b - a.tdiv b * b := by grind
    omega
  refine ⟨by omega, h1.1, fun hm => ?_, fun hm => ?_⟩
  · refine ⟨?_, by omega⟩
    symm
    rw [Int.ediv_eq_iff_of_pos (by omega)]
    generalize a.tdiv b = q at *
    have : (q - 1) * b = q * b - b := by rw [Int.sub_mul, Int.one_mul]
    omega
  · have : a.tmod b = 0 := by omega
    symm
    rw [Int.ediv_eq_iff_of_pos (by omega)]
    generalize a.tdiv b = q at *
    omega
theorem floor_any (a b : Int) (a1 : -9223372036854775808 ≤ a) (a2 : a ≤ 9223372036854775807) (b1 : 1 ≤ b) (b2 : b ≤ 1048576) (w : World) : Calls Try.prog 51 #[.int .i64 a, .int .i64 b] w fun e w' => e = .returned (.int .i64 (a / b)) ∧ w = w' := by
  have q1 : b ≠ 0 := by omega
  have q2 : (b == 0) = false := by simpa using q1
  rcases Int.lt_or_le a 0 with h | h
  · obtain ⟨t1, t2, t3, t4⟩ := tdiv_neg h b1
    by_cases hm : a.tmod b < 0
    · have HE := hid (t3 hm).1
      have r1 : -9223372036854775808 ≤ a.tdiv b - 1 := by have := (t3 hm).2; omega
      have r2 : a.tdiv b ≤ 0 := t2
      clear t1 t2 t3 t4 q1
      go_enter Try.func51, Try.ntmps51
      go_wp2
      go_ret
      exact ⟨ret_int HE.out, rfl⟩
    · have HE := hid (t4 hm)
      clear t1 t2 t3 t4 q1
      go_enter Try.func51, Try.ntmps51
      go_wp2
      go_ret
      exact ⟨ret_int HE.out, rfl⟩
  · have hm : 0 ≤ a % b := Int.emod_nonneg _ q1
    clear q1
    go_enter Try.func51, Try.ntmps51
    go_wp2
    go_ret
    exact ⟨rfl, rfl⟩
theorem rfloor_any (a b : Int) (a1 : -9223372036854775808 ≤ a) (a2 : a ≤ 9223372036854775807) (b1 : 1 ≤ b) (b2 : b ≤ 1048576) (w : World) : Calls Try.prog 43 #[.int .i64 a, .int .i64 b] w fun e w' => e = .returned (.int .i64 (a / b)) ∧ w = w' := by
  have q1 : b ≠ 0 := by omega
  have q2 : (b == 0) = false := by simpa using q1
  rcases Int.lt_or_le a 0 with h | h
  · obtain ⟨t1, t2, t3, t4⟩ := tdiv_neg h b1
    by_cases hm : a.tmod b < 0
    · have HE := hid (t3 hm).1
      have r1 : -9223372036854775808 ≤ a.tdiv b - 1 := by have := (t3 hm).2; omega
      have r2 : a.tdiv b ≤ 0 := t2
      clear t1 t2 t3 t4 q1
      go_enter Try.func43, Try.ntmps43
      go_wp2
      go_ret
      exact ⟨ret_int HE.out, rfl⟩
    · have HE := hid (t4 hm)
      clear t1 t2 t3 t4 q1
      go_enter Try.func43, Try.ntmps43
      go_wp2
      go_ret
      exact ⟨ret_int HE.out, rfl⟩
  · have hm : 0 ≤ a % b := Int.emod_nonneg _ q1
    clear q1
    go_enter Try.func43, Try.ntmps43
    go_wp2
    go_ret
    exact ⟨rfl, rfl⟩
abbrev gv (GW GH : Int) (ca : Option Addr) (clen ccap : Nat) : Value := .agg #[.int .i64 GW, .int .i64 GH, .slice ca clen ccap]
/-- the costs, in memory -/
def Costs (w : World) (a : Option Addr) (len : Nat) (c : Nat → Int) : Prop := 0 < len → ∃ b off, a = some ⟨b, off, none⟩ ∧ b < w.heap.size ∧ ∀ i, i < len → w.cell? ⟨b, off + i, none⟩ = some (.int .u8 (c i)) ∧ 0 ≤ c i ∧ c i ≤ 255
theorem costs_below {w w' : World} {a : Option Addr} {len : Nat} {c : Nat → Int} (h : Costs w a len c) (hb : Below w.heap.size w w') : Costs w' a len c := fun hp => by
  obtain ⟨b, off, h1, h2, h3⟩ := h hp
  exact ⟨b, off, h1, Nat.lt_of_lt_of_le h2 hb.size, fun i hi => ⟨(hb.cell h2).trans (h3 i hi).1, (h3 i hi).2⟩⟩
def freeB (GW GH size px py : Int) (c : Nat → Int) : Bool := inB (px / size) 0 (GW - 1) && (inB (py / size) 0 (GH - 1) && decide (c (py / size * GW + px / size).toNat < 254))
theorem idx_range {x y GW GH : Int} (hx : inB x 0 (GW - 1) = true) (hy : inB y 0 (GH - 1) = true) : 0 ≤ y * GW + x ∧ y * GW + x < GW * GH := by
  have a := inB_true hx
  have b := inB_true hy
  have h1 : 0 ≤ y * GW := Int.mul_nonneg (by omega) (by omega)
  have h2 : y * GW ≤ (GH - 1) * GW := Int.mul_le_mul_of_nonneg_right (by omega) (by omega)
  have e : (GH - 1) * GW = GW * GH - GW := by grind
  omega
theorem grid_area {GW GH : Int} (h1 : 1 ≤ GW) (h2 : GW ≤ 48) (h3 : 1 ≤ GH) (h4 : GH ≤ 48) : 1 ≤ GW * GH ∧ GW * GH ≤ 2304 := by
  have a := Int.mul_le_mul h2 h4 (by omega) (by omega)
  have b := Int.mul_le_mul h1 h3 (by omega) (by omega)
  omega
set_option maxHeartbeats 4000000 in
theorem free_any (GW GH : Int) (ca : Option Addr) (clen ccap : Nat) (c : Nat → Int) (size px py : Int) (g1 : 1 ≤ GW) (g2 : GW ≤ 48) (g3 : 1 ≤ GH) (g4 : GH ≤ 48) (s1 : 1 ≤ size) (s2 : size ≤ 1048576) (p1 : -9223372036854775808 ≤ px) (p2 : px ≤ 9223372036854775807) (p3 : -9223372036854775808 ≤ py) (p4 : py ≤ 9223372036854775807) (hcl : (clen : Int) = GW * GH) (w : World) (hc : Hid (Costs w ca clen c)) : Calls Try.prog 42 #[gv GW GH ca clen ccap, .int .i64 size, pt px py] w fun e w' => e = .returned (.bool (freeB GW GH size px py c)) ∧ Below w.heap.size w w' := by
  have HCL := hid hcl
  have HF1 := hid (fun w => floor_any px size p1 p2 s1 s2 w)
  have HF2 := hid (fun w => floor_any py size p3 p4 s1 s2 w)
  clear hcl
  cases e1 : inB (px / size) 0 (GW - 1) with
  | false =>
    have hv : Hid (freeB GW GH size px py c = false) := hid (by unfold freeB; rw [e1]; rfl)
    go_enter Try.func42, Try.ntmps42
    go_wp2_with fail
    have hl0 : ∀ (z : Later ((w.alloc (.cells #[.int .i64 GW, .int .i64 GH, .slice ca clen ccap] 46)).alloc (.cells #[.int .i64 px, .int .i64 py] 23))) (o : Nat), z.val.cell? ⟨w.heap.size, o, none⟩ = ((w.alloc (.cells #[.int .i64 GW, .int .i64 GH, .slice ca clen ccap] 46)).alloc (.cells #[.int .i64 px, .int .i64 py] 23)).cell? ⟨w.heap.size, o, none⟩ := fun z o => z.cell (by simp <;> omega)
    have hl1 : ∀ (z : Later ((w.alloc (.cells #[.int .i64 GW, .int .i64 GH, .slice ca clen ccap] 46)).alloc (.cells #[.int .i64 px, .int .i64 py] 23))) (o : Nat), z.val.cell? ⟨w.heap.size + 1, o, none⟩ = ((w.alloc (.cells #[.int .i64 GW, .int .i64 GH, .slice ca clen ccap] 46)).alloc (.cells #[.int .i64 px, .int .i64 py] 23)).cell? ⟨w.heap.size + 1, o, none⟩ := fun z o => z.cell (by simp <;> omega)
    refine wp_region_later (Below.refl _ _) (by kernel_rfl) (by kernel_rfl) ?_
    repeat (go_big_quiet_step ((first | (go_at_call 51; with_reducible exact calls_later_same (HF1.out _)) | (go_at_call 51; with_reducible exact calls_later_same (HF2.out _)))))
    refine wpQuiet_nil ?_
    intro _ hw'
    obtain ⟨y0, hw''⟩ := hw'
    subst hw''
    go_wp2_with (first | (go_at_call 28; (with_reducible refine (within_any _ _ _ _).mono ?_); rintro e w3 ⟨rfl, rfl⟩))
    go_ret
    exact ⟨ret_bool hv.out.symm, box2 y0.ok⟩
  | true =>
    cases e2 : inB (py / size) 0 (GH - 1) with
    | false =>
      have hv : Hid (freeB GW GH size px py c = false) := hid (by unfold freeB; rw [e1, e2]; rfl)
      go_enter Try.func42, Try.ntmps42
      go_wp2_with fail
      have hl0 : ∀ (z : Later ((w.alloc (.cells #[.int .i64 GW, .int .i64 GH, .slice ca clen ccap] 46)).alloc (.cells #[.int .i64 px, .int .i64 py] 23))) (o : Nat), z.val.cell? ⟨w.heap.size, o, none⟩ = ((w.alloc (.cells #[.int .i64 GW, .int .i64 GH, .slice ca clen ccap] 46)).alloc (.cells #[.int .i64 px, .int .i64 py] 23)).cell? ⟨w.heap.size, o, none⟩ := fun z o => z.cell (by simp <;> omega)
      have hl1 : ∀ (z : Later ((w.alloc (.cells #[.int .i64 GW, .int .i64 GH, .slice ca clen ccap] 46)).alloc (.cells #[.int .i64 px, .int .i64 py] 23))) (o : Nat), z.val.cell? ⟨w.heap.size + 1, o, none⟩ = ((w.alloc (.cells #[.int .i64 GW, .int .i64 GH, .slice ca clen ccap] 46)).alloc (.cells #[.int .i64 px, .int .i64 py] 23)).cell? ⟨w.heap.size + 1, o, none⟩ := fun z o => z.cell (by simp <;> omega)
      refine wp_region_later (Below.refl _ _) (by kernel_rfl) (by kernel_rfl) ?_
      repeat (go_big_quiet_step ((first | (go_at_call 51; with_reducible exact calls_later_same (HF1.out _)) | (go_at_call 51; with_reducible exact calls_later_same (HF2.out _)))))
      refine wpQuiet_nil ?_
      intro _ hw'
      obtain ⟨y0, hw''⟩ := hw'
      subst hw''
      go_wp2_with (first | (go_at_call 28; (with_reducible refine (within_any _ _ _ _).mono ?_); rintro e w3 ⟨rfl, rfl⟩))
      go_ret
      exact ⟨ret_bool hv.out.symm, box2 y0.ok⟩
    | true =>
      have hv : Hid (freeB GW GH size px py c = decide (c (py / size * GW + px / size).toNat < 254)) := hid (by unfold freeB; rw [e1, e2]; rfl)
      obtain ⟨i1, i2⟩ := idx_range e1 e2
      have bx := inB_true e1
      have by' := inB_true e2
      have ar := grid_area g1 g2 g3 g4
      have j1 : 0 ≤ py / size * GW := Int.mul_nonneg (by omega) (by omega)
      have j2 : py / size * GW ≤ 2304 := by omega
      rw [← HCL.out] at i2
      have hcpos : 0 < clen := by have := HCL.out; omega
      obtain ⟨b, off, rfl, hbw, hcell⟩ := hc.out hcpos
      obtain ⟨x0, x1, x2⟩ := hcell (py / size * GW + px / size).toNat (by omega)
      have hidx : (((py / size * GW + px / size).toNat : Nat) : Int) = py / size * GW + px / size := Int.toNat_of_nonneg i1
      clear hcell hc e1 e2 HCL
      generalize c (py / size * GW + px / size).toNat = cv at *
      generalize px / size = x at *
      generalize py / size = y at *
      have HI := hid hidx
      clear hidx
      go_enter Try.func42, Try.ntmps42
      go_wp2_with fail
      have hl0 : ∀ (z : Later ((w.alloc (.cells #[.int .i64 GW, .int .i64 GH, .slice (some ⟨b, off, none⟩) clen ccap] 46)).alloc (.cells #[.int .i64 px, .int .i64 py] 23))) (o : Nat), z.val.cell? ⟨w.heap.size, o, none⟩ = ((w.alloc (.cells #[.int .i64 GW, .int .i64 GH, .slice (some ⟨b, off, none⟩) clen ccap] 46)).alloc (.cells #[.int .i64 px, .int .i64 py] 23)).cell? ⟨w.heap.size, o, none⟩ := fun z o => z.cell (by simp <;> omega)
      have hl1 : ∀ (z : Later ((w.alloc (.cells #[.int .i64 GW, .int .i64 GH, .slice (some ⟨b, off, none⟩) clen ccap] 46)).alloc (.cells #[.int .i64 px, .int .i64 py] 23))) (o : Nat), z.val.cell? ⟨w.heap.size + 1, o, none⟩ = ((w.alloc (.cells #[.int .i64 GW, .int .i64 GH, .slice (some ⟨b, off, none⟩) clen ccap] 46)).alloc (.cells #[.int .i64 px, .int .i64 py] 23)).cell? ⟨w.heap.size + 1, o, none⟩ := fun z o => z.cell (by simp <;> omega)
      refine wp_region_later (Below.refl _ _) (by kernel_rfl) (by kernel_rfl) ?_
      repeat (go_big_quiet_step ((first | (go_at_call 51; with_reducible exact calls_later_same (HF1.out _)) | (go_at_call 51; with_reducible exact calls_later_same (HF2.out _)))))
      refine wpQuiet_nil ?_
      intro _ hw'
      obtain ⟨y0, hw''⟩ := hw'
      subst hw''
      have xc : y0.val.cell? ⟨b, off + (y * GW + x).toNat, none⟩ = some (.int .u8 cv) := (y0.cell (by simp; omega)).trans ((((Below.refl w.heap.size w).alloc (Nat.le_refl _) _).alloc (by simp) _).cell hbw |>.trans x0)
      have wt : inB x 0 (GW - 1) = true := inB_mk bx.1 bx.2
      have wt2 : inB y 0 (GH - 1) = true := inB_mk by'.1 by'.2
      go_wp2_with (first | (go_at_call 28; (with_reducible refine (within_any _ _ _ _).mono ?_); rintro e w3 ⟨rfl, rfl⟩))
      go_ret
      exact ⟨ret_bool hv.out.symm, box2 y0.ok⟩
end Go.Proofs.Ythfpdlkeagoamaa
