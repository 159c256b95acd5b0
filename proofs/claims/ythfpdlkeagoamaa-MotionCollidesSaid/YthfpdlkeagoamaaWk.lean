/- Walks: Step. -/
import Derived.Test.YthfpdlkeagoamaaWj
namespace Go.Proofs.Ythfpdlkeagoamaa
open Go.RowKit
set_option linter.unusedVariables false
set_option maxHeartbeats 2000000 in
theorem step_no (px py vx vy wx wy S A B H M : Int) (ev : vld px py vx vy S A B H M = false) (w : World) : Calls Try.prog 15 #[mo px py vx vy, pt wx wy, lim S A B H M] w fun e w' => e = .returned (mo px py vx vy) ∧ Below w.heap.size w w' := by
  have HV := hid (valid_of ev)
  go_enter Try.func15, Try.ntmps15
  go_wp2_with (first | (go_at_call 12; (with_reducible refine (HV.out _).mono ?_); rintro e w2 ⟨rfl, hb⟩; obtain ⟨hc, hf⟩ := bcell hb; have hz : w.heap.size + 1 + 1 + 1 < w2.heap.size := (by have := hb.size; simp at this; omega)))
  (try simp only [Exit.inBlock, Exit.then])
  refine bodyPost_ret (v := mo px py vx vy) (by simp [results, Try.results15, go_sem, hc]) rfl ?_
  exact ⟨rfl, ((((box3 (below_box hb)).setCell (by simp <;> omega) _).setCell (by simp <;> omega) _).setCell (by simp <;> omega) _).setCell (by simp <;> omega) _⟩
set_option maxHeartbeats 2000000 in
theorem rstep_no (px py vx vy wx wy S A B H M : Int) (ev : vld px py vx vy S A B H M = false) (w : World) : Calls Try.prog 17 #[mo px py vx vy, pt wx wy, lim S A B H M] w fun e w' => e = .returned (mo px py vx vy) ∧ Below w.heap.size w w' := by
  have HV := hid (rvalid_of ev)
  go_enter Try.func17, Try.ntmps17
  go_wp2_with (first | (go_at_call 13; (with_reducible refine (HV.out _).mono ?_); rintro e w2 ⟨rfl, hb⟩; obtain ⟨hc, hf⟩ := bcell hb; have hz : w.heap.size + 1 + 1 + 1 < w2.heap.size := (by have := hb.size; simp at this; omega)))
  (try simp only [Exit.inBlock, Exit.then])
  refine bodyPost_ret (v := mo px py vx vy) (by simp [results, Try.results17, go_sem, hc]) rfl ?_
  exact ⟨rfl, ((((box3 (below_box hb)).setCell (by simp <;> omega) _).setCell (by simp <;> omega) _).setCell (by simp <;> omega) _).setCell (by simp <;> omega) _⟩
theorem stp_range {vx vy wx wy S A : Int} (s1 : 1 ≤ S) (s2 : S ≤ 4096) (a1 : 1 ≤ A) (h1 : -4096 ≤ vx) (h2 : vx ≤ 4096) (h3 : -4096 ≤ vy) (h4 : vy ≤ 4096) (hv : sqr vx vy ≤ S * S) : -4096 ≤ stpX vx vy wx wy S A ∧ stpX vx vy wx wy S A ≤ 4096 ∧ -4096 ≤ stpY vx vy wx wy S A ∧ stpY vx vy wx wy S A ≤ 4096 := by
  have := stp_speed (vx := vx) (vy := vy) (wx := wx) (wy := wy) (S := S) (A := A) (by omega) (by omega) h1 h2 h3 h4 hv
  have := abs_of_sqr (by omega) this
  omega
theorem step_next {px py vx vy wx wy S A B H M : Int} (ev : vld px py vx vy S A B H M = true) (w : World) : Calls Try.prog 34 #[mo px py vx vy, pt wx wy, rule 35 S A B H M] w fun e w' => e = .returned (mo (clp (px + stpX vx vy wx wy S A)) (clp (py + stpY vx vy wx wy S A)) (stpX vx vy wx wy S A) (stpY vx vy wx wy S A)) ∧ Below w.heap.size w w' := by
  obtain ⟨k1, p1, p2, p3, p4, hv⟩ := vld_true ev
  obtain ⟨s1, s2, a1, a2, _⟩ := chk_true k1
  obtain ⟨h1, h2, h3, h4⟩ := vld_abs ev
  obtain ⟨r1, r2, r3, r4⟩ := stp_range (wx := wx) (wy := wy) s1 s2 a1 h1 h2 h3 h4 hv
  exact next35_any S A B H M px py vx vy wx wy _ _ (by omega) (by omega) (by omega) (by omega) (by omega) (by omega) (by omega) (by omega) (hid (fun w => wanted_any S A B H M vx vy wx wy s1 s2 a1 (by omega) h1 h2 h3 h4 w)) w
set_option maxHeartbeats 2000000 in
theorem step_yes (px py vx vy wx wy S A B H M : Int) (ev : vld px py vx vy S A B H M = true) (w : World) : Calls Try.prog 15 #[mo px py vx vy, pt wx wy, lim S A B H M] w fun e w' => e = .returned (mo (clp (px + stpX vx vy wx wy S A)) (clp (py + stpY vx vy wx wy S A)) (stpX vx vy wx wy S A) (stpY vx vy wx wy S A)) ∧ Below w.heap.size w w' := by
  have HV := hid (valid_of ev)
  have HN := hid (fun w => step_next (wx := wx) (wy := wy) ev w)
  clear ev
  go_enter Try.func15, Try.ntmps15
  go_wp2_with (first
    | (go_at_call 12; (with_reducible refine (HV.out _).mono ?_); rintro e w2 ⟨rfl, hb⟩; obtain ⟨hc, hf⟩ := bcell hb; have hz : w.heap.size + 1 + 1 + 1 < w2.heap.size := (by have := hb.size; simp at this; omega))
    | (go_at_call 34; (with_reducible refine (HN.out _).mono ?_); rintro e w3 ⟨rfl, hb3⟩; obtain ⟨hc3, hf3⟩ := bcell hb3; have hz3 := hb3.size))
  (try simp only [Exit.inBlock, Exit.then])
  have d0 : ∀ o, w3.cell? ⟨w.heap.size + 1 + 1 + 1, o, none⟩ = ((((w.alloc (.cells #[.int .i64 px, .int .i64 py, .int .i64 vx, .int .i64 vy] 25)).alloc (.cells #[.int .i64 wx, .int .i64 wy] 23)).alloc (.cells #[.int .i64 S, .int .i64 A, .int .i64 B, .int .i64 H, .int .i64 M] 27)).alloc (.cells #[.int .i64 0, .int .i64 0, .int .i64 0, .int .i64 0] 25)).cell? ⟨w.heap.size + 1 + 1 + 1, o, none⟩ := fun o => (hc3 _ _ (by omega)).trans (hc _ _ (by simp <;> omega))
  refine bodyPost_ret (v := mo (clp (px + stpX vx vy wx wy S A)) (clp (py + stpY vx vy wx wy S A)) (stpX vx vy wx wy S A) (stpY vx vy wx wy S A)) (by simp [results, Try.results15, go_sem, d0]) rfl ?_
  exact ⟨rfl, (((((box3 (below_box hb)).trans (hb3.mono (by omega))).setCell (by simp <;> omega) _).setCell (by simp <;> omega) _).setCell (by simp <;> omega) _).setCell (by simp <;> omega) _⟩
theorem step_any (px py vx vy wx wy S A B H M : Int) (w : World) : Calls Try.prog 15 #[mo px py vx vy, pt wx wy, lim S A B H M] w fun e w' => e = .returned (mo (nPx px py vx vy wx wy S A B H M) (nPy px py vx vy wx wy S A B H M) (nVx px py vx vy wx wy S A B H M) (nVy px py vx vy wx wy S A B H M)) ∧ Below w.heap.size w w' := by
  cases ev : vld px py vx vy S A B H M with
  | false =>
    obtain ⟨q1, q2, q3, q4⟩ := n_no (wx := wx) (wy := wy) ev
    rw [q1, q2, q3, q4]
    exact step_no px py vx vy wx wy S A B H M ev w
  | true =>
    obtain ⟨q1, q2, q3, q4⟩ := n_yes (wx := wx) (wy := wy) ev
    rw [q1, q2, q3, q4]
    exact step_yes px py vx vy wx wy S A B H M ev w
theorem rstep_any (px py vx vy wx wy S A B H M : Int) (w : World) : Calls Try.prog 17 #[mo px py vx vy, pt wx wy, lim S A B H M] w fun e w' => e = .returned (mo (nPx px py vx vy wx wy S A B H M) (nPy px py vx vy wx wy S A B H M) (nVx px py vx vy wx wy S A B H M) (nVy px py vx vy wx wy S A B H M)) ∧ Below w.heap.size w w' := by
  cases ev : vld px py vx vy S A B H M with
  | false =>
    obtain ⟨q1, q2, q3, q4⟩ := n_no (wx := wx) (wy := wy) ev
    rw [q1, q2, q3, q4]
    exact rstep_no px py vx vy wx wy S A B H M ev w
  | true =>
    obtain ⟨q1, q2, q3, q4⟩ := n_yes (wx := wx) (wy := wy) ev
    rw [q1, q2, q3, q4]
    exact rstep_yes px py vx vy wx wy S A B H M ev w
end Go.Proofs.Ythfpdlkeagoamaa
