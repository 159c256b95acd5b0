import Derived.Test.YtfcianhmfpenhaaWa
import Derived.Test.YtfcianhmfpenhaaTail
namespace Go.Proofs.Ytfcianhmfpenhaa
open Go.RowKit
theorem mul_bound {c l : Int} (h1 : -2097152 ≤ c) (h2 : c ≤ 2097152) (h3 : 0 ≤ l) (h4 : l ≤ 2147483647) : -4503599627370496 ≤ c * l ∧ c * l ≤ 4503599627370496 := by
  have a := Int.mul_le_mul h2 h4 h3 (by decide)
  have b := Int.mul_le_mul (show -c ≤ 2097152 by omega) h4 h3 (by decide)
  rw [Int.neg_mul] at b
  omega
set_option maxHeartbeats 2000000 in
/-- where the vector is short enough -/
theorem scale_short (x y l : Int) (hx1 : -2097152 ≤ x) (hx2 : x ≤ 2097152) (hy1 : -2097152 ≤ y) (hy2 : y ≤ 2097152) (h : sqr x y ≤ max l 0 * max l 0) (w : World) :
    Calls Try.prog 42 #[pt x y, .int .i64 l] w fun e w' => e = .returned (pt x y) ∧ Below w.heap.size w w' := by
  have hn0 := sqr_nonneg x y
  have hn1 := sqr_le hx1 hx2 hy1 hy2
  have hn2 : sqr x y ≤ 9223372036854775807 := by omega
  by_cases hl0 : l < 0
  · rw [show max l 0 = 0 from by omega] at h
    have h' : sqr x y ≤ 0 := h
    clear h
    go_enter Try.func42, Try.ntmps42
    go_wp2_with (first
      | (go_at_call 52; refine (square_any x y (by omega) (by omega) (by omega) (by omega) _).mono ?_; rintro e w2 ⟨rfl, hb⟩; obtain ⟨hc, hf⟩ := bcell hb)
      | (go_at_call 53; refine (root_any _ hn2 _).mono ?_; rintro e w2 ⟨rfl, rfl⟩))
    (try simp only [Exit.inBlock, Exit.then]); refine bodyPost_ret (v := pt (x) (y)) (by simp [results, Try.results42, go_sem, hc]) rfl ?_
    exact ⟨rfl, ((box2 hb).setCell (by simp) _).setCell (by simp) _⟩
  · rw [show max l 0 = l from by omega] at h
    by_cases hl1 : l < 2147483648
    · have hl2 : 0 ≤ l := by omega
      have hq1 : 0 ≤ l * l := Int.mul_nonneg hl2 hl2
      have hq2 : l * l ≤ 2147483648 * 2147483648 := Int.mul_le_mul (by omega) (by omega) hl2 (by omega)
      clear hl0
      go_enter Try.func42, Try.ntmps42
      go_wp2_with (first
      | (go_at_call 52; refine (square_any x y (by omega) (by omega) (by omega) (by omega) _).mono ?_; rintro e w2 ⟨rfl, hb⟩; obtain ⟨hc, hf⟩ := bcell hb)
      | (go_at_call 53; refine (root_any _ hn2 _).mono ?_; rintro e w2 ⟨rfl, rfl⟩))
      (try simp only [Exit.inBlock, Exit.then]); refine bodyPost_ret (v := pt (x) (y)) (by simp [results, Try.results42, go_sem, hc]) rfl ?_
      exact ⟨rfl, ((box2 hb).setCell (by simp) _).setCell (by simp) _⟩
    · have hl2 : 2147483648 ≤ l := by omega
      clear hl0 hl1 h
      go_enter Try.func42, Try.ntmps42
      go_wp2_with (first
      | (go_at_call 52; refine (square_any x y (by omega) (by omega) (by omega) (by omega) _).mono ?_; rintro e w2 ⟨rfl, hb⟩; obtain ⟨hc, hf⟩ := bcell hb)
      | (go_at_call 53; refine (root_any _ hn2 _).mono ?_; rintro e w2 ⟨rfl, rfl⟩))
      (try simp only [Exit.inBlock, Exit.then]); refine bodyPost_ret (v := pt (x) (y)) (by simp [results, Try.results42, go_sem, hc]) rfl ?_
      exact ⟨rfl, ((box2 hb).setCell (by simp) _).setCell (by simp) _⟩
set_option maxHeartbeats 2000000 in
theorem scale_long_neg (x y l : Int) (hx1 : -2097152 ≤ x) (hx2 : x ≤ 2097152) (hy1 : -2097152 ≤ y) (hy2 : y ≤ 2097152) (hl0 : l < 0) (h : 0 * 0 < sqr x y) (w : World) :
    Calls Try.prog 42 #[pt x y, .int .i64 l] w fun e w' => e = .returned (pt ((x * 0).tdiv (upr (sqr x y))) ((y * 0).tdiv (upr (sqr x y)))) ∧ Below w.heap.size w w' := by
  have hn1 := sqr_le hx1 hx2 hy1 hy2
  have hn2 : sqr x y ≤ 9223372036854775807 := by omega
  have hl1 : (0 : Int) < 2147483648 := lt_of_sq (a := 0) (b := 2147483648) (by decide) (by have e : (2147483648 : Int) * 2147483648 = 4611686018427387904 := (by decide); omega)
  have hq1 : (0 : Int) ≤ 0 * 0 := Int.mul_nonneg (by omega) (by omega)
  obtain ⟨p1, p2⟩ := mul_bound (c := x) (l := 0) hx1 hx2 (by omega) (by omega)
  obtain ⟨p3, p4⟩ := mul_bound (c := y) (l := 0) hy1 hy2 (by omega) (by omega)
  obtain ⟨s1, s2, s3⟩ := isq_spec (n := sqr x y) (by omega) (by omega)
  obtain ⟨_, s4⟩ := isq_le hn2
  have s5 : 0 < isq (sqr x y) := by
    rcases Int.lt_or_le 0 (isq (sqr x y)) with hh | hh
    · exact hh
    · have e : isq (sqr x y) = 0 := by omega
      rw [e] at s3
      omega
  have s6 : 0 ≤ isq (sqr x y) * isq (sqr x y) := Int.mul_nonneg s1 s1
  clear s3
  by_cases hu : isq (sqr x y) * isq (sqr x y) < sqr x y
  · have eu : upr (sqr x y) = isq (sqr x y) + 1 := by unfold upr; rw [if_pos hu]
    rw [eu]
    clear eu
    go_enter Try.func42, Try.ntmps42
    go_wp2_with (first
      | (go_at_call 52; refine (square_any x y (by omega) (by omega) (by omega) (by omega) _).mono ?_; rintro e w2 ⟨rfl, hb⟩; obtain ⟨hc, hf⟩ := bcell hb)
      | (go_at_call 53; refine (root_any _ hn2 _).mono ?_; rintro e w2 ⟨rfl, rfl⟩))
    have hl : ∀ (z : Later ((w.alloc (.cells #[.int .i64 x, .int .i64 y] 35)).alloc (.cells #[.int .i64 0, .int .i64 0] 35))) (o : Nat), z.val.cell? ⟨w.heap.size, o, none⟩ = ((w.alloc (.cells #[.int .i64 x, .int .i64 y] 35)).alloc (.cells #[.int .i64 0, .int .i64 0] 35)).cell? ⟨w.heap.size, o, none⟩ := fun z o => z.cell (by simp; omega)
    have hl2 : ∀ (z : Later ((w.alloc (.cells #[.int .i64 x, .int .i64 y] 35)).alloc (.cells #[.int .i64 0, .int .i64 0] 35))) (o : Nat), z.val.cell? ⟨w.heap.size + 1, o, none⟩ = ((w.alloc (.cells #[.int .i64 x, .int .i64 y] 35)).alloc (.cells #[.int .i64 0, .int .i64 0] 35)).cell? ⟨w.heap.size + 1, o, none⟩ := fun z o => z.cell (by simp)
    have hl3 : ∀ (z : Later ((w.alloc (.cells #[.int .i64 x, .int .i64 y] 35)).alloc (.cells #[.int .i64 0, .int .i64 0] 35))) (o : Nat), z.val.frozen? ⟨w.heap.size + 1, o, none⟩ = ((w.alloc (.cells #[.int .i64 x, .int .i64 y] 35)).alloc (.cells #[.int .i64 0, .int .i64 0] 35)).frozen? ⟨w.heap.size + 1, o, none⟩ := fun z o => z.frz (by simp)
    clear hc hf
    refine wp_region_later_tail 13 hb (by kernel_rfl) (by kernel_rfl) ?_
    simp only [List.take_succ_cons, List.take_zero, List.drop_succ_cons, List.drop_zero]
    repeat (go_big_quiet_step (fail))
    refine wpQuiet_nil ?_
    intro _ hw'
    obtain ⟨y0, hw''⟩ := hw'
    subst hw''
    go_wp2
    (try simp only [Exit.inBlock, Exit.then]); refine bodyPost_ret (v := pt ((x * 0).tdiv (isq (sqr x y) + 1)) ((y * 0).tdiv (isq (sqr x y) + 1))) (by simp [results, Try.results42, go_sem, hl2]) rfl ?_
    exact ⟨rfl, ((box2 y0.ok).setCell (by simp) _).setCell (by simp) _⟩
  · have eu : upr (sqr x y) = isq (sqr x y) := by unfold upr; rw [if_neg hu]
    rw [eu]
    clear eu
    go_enter Try.func42, Try.ntmps42
    go_wp2_with (first
      | (go_at_call 52; refine (square_any x y (by omega) (by omega) (by omega) (by omega) _).mono ?_; rintro e w2 ⟨rfl, hb⟩; obtain ⟨hc, hf⟩ := bcell hb)
      | (go_at_call 53; refine (root_any _ hn2 _).mono ?_; rintro e w2 ⟨rfl, rfl⟩))
    have hl : ∀ (z : Later ((w.alloc (.cells #[.int .i64 x, .int .i64 y] 35)).alloc (.cells #[.int .i64 0, .int .i64 0] 35))) (o : Nat), z.val.cell? ⟨w.heap.size, o, none⟩ = ((w.alloc (.cells #[.int .i64 x, .int .i64 y] 35)).alloc (.cells #[.int .i64 0, .int .i64 0] 35)).cell? ⟨w.heap.size, o, none⟩ := fun z o => z.cell (by simp; omega)
    have hl2 : ∀ (z : Later ((w.alloc (.cells #[.int .i64 x, .int .i64 y] 35)).alloc (.cells #[.int .i64 0, .int .i64 0] 35))) (o : Nat), z.val.cell? ⟨w.heap.size + 1, o, none⟩ = ((w.alloc (.cells #[.int .i64 x, .int .i64 y] 35)).alloc (.cells #[.int .i64 0, .int .i64 0] 35)).cell? ⟨w.heap.size + 1, o, none⟩ := fun z o => z.cell (by simp)
    have hl3 : ∀ (z : Later ((w.alloc (.cells #[.int .i64 x, .int .i64 y] 35)).alloc (.cells #[.int .i64 0, .int .i64 0] 35))) (o : Nat), z.val.frozen? ⟨w.heap.size + 1, o, none⟩ = ((w.alloc (.cells #[.int .i64 x, .int .i64 y] 35)).alloc (.cells #[.int .i64 0, .int .i64 0] 35)).frozen? ⟨w.heap.size + 1, o, none⟩ := fun z o => z.frz (by simp)
    clear hc hf
    refine wp_region_later_tail 13 hb (by kernel_rfl) (by kernel_rfl) ?_
    simp only [List.take_succ_cons, List.take_zero, List.drop_succ_cons, List.drop_zero]
    repeat (go_big_quiet_step (fail))
    refine wpQuiet_nil ?_
    intro _ hw'
    obtain ⟨y0, hw''⟩ := hw'
    subst hw''
    go_wp2
    (try simp only [Exit.inBlock, Exit.then]); refine bodyPost_ret (v := pt ((x * 0).tdiv (isq (sqr x y))) ((y * 0).tdiv (isq (sqr x y)))) (by simp [results, Try.results42, go_sem, hl2]) rfl ?_
    exact ⟨rfl, ((box2 y0.ok).setCell (by simp) _).setCell (by simp) _⟩
set_option maxHeartbeats 2000000 in
theorem scale_long_pos (x y l : Int) (hx1 : -2097152 ≤ x) (hx2 : x ≤ 2097152) (hy1 : -2097152 ≤ y) (hy2 : y ≤ 2097152) (hl0 : 0 ≤ l) (h : l * l < sqr x y) (w : World) :
    Calls Try.prog 42 #[pt x y, .int .i64 l] w fun e w' => e = .returned (pt ((x * l).tdiv (upr (sqr x y))) ((y * l).tdiv (upr (sqr x y)))) ∧ Below w.heap.size w w' := by
  have hn1 := sqr_le hx1 hx2 hy1 hy2
  have hn2 : sqr x y ≤ 9223372036854775807 := by omega
  have hl1 : (l : Int) < 2147483648 := lt_of_sq (a := l) (b := 2147483648) (by decide) (by have e : (2147483648 : Int) * 2147483648 = 4611686018427387904 := (by decide); omega)
  have hq1 : (0 : Int) ≤ l * l := Int.mul_nonneg (by omega) (by omega)
  obtain ⟨p1, p2⟩ := mul_bound (c := x) (l := l) hx1 hx2 (by omega) (by omega)
  obtain ⟨p3, p4⟩ := mul_bound (c := y) (l := l) hy1 hy2 (by omega) (by omega)
  obtain ⟨s1, s2, s3⟩ := isq_spec (n := sqr x y) (by omega) (by omega)
  obtain ⟨_, s4⟩ := isq_le hn2
  have s5 : 0 < isq (sqr x y) := by
    rcases Int.lt_or_le 0 (isq (sqr x y)) with hh | hh
    · exact hh
    · have e : isq (sqr x y) = 0 := by omega
      rw [e] at s3
      omega
  have s6 : 0 ≤ isq (sqr x y) * isq (sqr x y) := Int.mul_nonneg s1 s1
  clear s3
  by_cases hu : isq (sqr x y) * isq (sqr x y) < sqr x y
  · have eu : upr (sqr x y) = isq (sqr x y) + 1 := by unfold upr; rw [if_pos hu]
    rw [eu]
    clear eu
    go_enter Try.func42, Try.ntmps42
    go_wp2_with (first
      | (go_at_call 52; refine (square_any x y (by omega) (by omega) (by omega) (by omega) _).mono ?_; rintro e w2 ⟨rfl, hb⟩; obtain ⟨hc, hf⟩ := bcell hb)
      | (go_at_call 53; refine (root_any _ hn2 _).mono ?_; rintro e w2 ⟨rfl, rfl⟩))
    have hl : ∀ (z : Later ((w.alloc (.cells #[.int .i64 x, .int .i64 y] 35)).alloc (.cells #[.int .i64 0, .int .i64 0] 35))) (o : Nat), z.val.cell? ⟨w.heap.size, o, none⟩ = ((w.alloc (.cells #[.int .i64 x, .int .i64 y] 35)).alloc (.cells #[.int .i64 0, .int .i64 0] 35)).cell? ⟨w.heap.size, o, none⟩ := fun z o => z.cell (by simp; omega)
    have hl2 : ∀ (z : Later ((w.alloc (.cells #[.int .i64 x, .int .i64 y] 35)).alloc (.cells #[.int .i64 0, .int .i64 0] 35))) (o : Nat), z.val.cell? ⟨w.heap.size + 1, o, none⟩ = ((w.alloc (.cells #[.int .i64 x, .int .i64 y] 35)).alloc (.cells #[.int .i64 0, .int .i64 0] 35)).cell? ⟨w.heap.size + 1, o, none⟩ := fun z o => z.cell (by simp)
    have hl3 : ∀ (z : Later ((w.alloc (.cells #[.int .i64 x, .int .i64 y] 35)).alloc (.cells #[.int .i64 0, .int .i64 0] 35))) (o : Nat), z.val.frozen? ⟨w.heap.size + 1, o, none⟩ = ((w.alloc (.cells #[.int .i64 x, .int .i64 y] 35)).alloc (.cells #[.int .i64 0, .int .i64 0] 35)).frozen? ⟨w.heap.size + 1, o, none⟩ := fun z o => z.frz (by simp)
    clear hc hf
    refine wp_region_later_tail 13 hb (by kernel_rfl) (by kernel_rfl) ?_
    simp only [List.take_succ_cons, List.take_zero, List.drop_succ_cons, List.drop_zero]
    repeat (go_big_quiet_step (fail))
    refine wpQuiet_nil ?_
    intro _ hw'
    obtain ⟨y0, hw''⟩ := hw'
    subst hw''
    go_wp2
    (try simp only [Exit.inBlock, Exit.then]); refine bodyPost_ret (v := pt ((x * l).tdiv (isq (sqr x y) + 1)) ((y * l).tdiv (isq (sqr x y) + 1))) (by simp [results, Try.results42, go_sem, hl2]) rfl ?_
    exact ⟨rfl, ((box2 y0.ok).setCell (by simp) _).setCell (by simp) _⟩
  · have eu : upr (sqr x y) = isq (sqr x y) := by unfold upr; rw [if_neg hu]
    rw [eu]
    clear eu
    go_enter Try.func42, Try.ntmps42
    go_wp2_with (first
      | (go_at_call 52; refine (square_any x y (by omega) (by omega) (by omega) (by omega) _).mono ?_; rintro e w2 ⟨rfl, hb⟩; obtain ⟨hc, hf⟩ := bcell hb)
      | (go_at_call 53; refine (root_any _ hn2 _).mono ?_; rintro e w2 ⟨rfl, rfl⟩))
    have hl : ∀ (z : Later ((w.alloc (.cells #[.int .i64 x, .int .i64 y] 35)).alloc (.cells #[.int .i64 0, .int .i64 0] 35))) (o : Nat), z.val.cell? ⟨w.heap.size, o, none⟩ = ((w.alloc (.cells #[.int .i64 x, .int .i64 y] 35)).alloc (.cells #[.int .i64 0, .int .i64 0] 35)).cell? ⟨w.heap.size, o, none⟩ := fun z o => z.cell (by simp; omega)
    have hl2 : ∀ (z : Later ((w.alloc (.cells #[.int .i64 x, .int .i64 y] 35)).alloc (.cells #[.int .i64 0, .int .i64 0] 35))) (o : Nat), z.val.cell? ⟨w.heap.size + 1, o, none⟩ = ((w.alloc (.cells #[.int .i64 x, .int .i64 y] 35)).alloc (.cells #[.int .i64 0, .int .i64 0] 35)).cell? ⟨w.heap.size + 1, o, none⟩ := fun z o => z.cell (by simp)
    have hl3 : ∀ (z : Later ((w.alloc (.cells #[.int .i64 x, .int .i64 y] 35)).alloc (.cells #[.int .i64 0, .int .i64 0] 35))) (o : Nat), z.val.frozen? ⟨w.heap.size + 1, o, none⟩ = ((w.alloc (.cells #[.int .i64 x, .int .i64 y] 35)).alloc (.cells #[.int .i64 0, .int .i64 0] 35)).frozen? ⟨w.heap.size + 1, o, none⟩ := fun z o => z.frz (by simp)
    clear hc hf
    refine wp_region_later_tail 13 hb (by kernel_rfl) (by kernel_rfl) ?_
    simp only [List.take_succ_cons, List.take_zero, List.drop_succ_cons, List.drop_zero]
    repeat (go_big_quiet_step (fail))
    refine wpQuiet_nil ?_
    intro _ hw'
    obtain ⟨y0, hw''⟩ := hw'
    subst hw''
    go_wp2
    (try simp only [Exit.inBlock, Exit.then]); refine bodyPost_ret (v := pt ((x * l).tdiv (isq (sqr x y))) ((y * l).tdiv (isq (sqr x y)))) (by simp [results, Try.results42, go_sem, hl2]) rfl ?_
    exact ⟨rfl, ((box2 y0.ok).setCell (by simp) _).setCell (by simp) _⟩
theorem scale_any (x y l : Int) (hx1 : -2097152 ≤ x) (hx2 : x ≤ 2097152) (hy1 : -2097152 ≤ y) (hy2 : y ≤ 2097152) (w : World) :
    Calls Try.prog 42 #[pt x y, .int .i64 l] w fun e w' => e = .returned (pt (scl (sqr x y) x (max l 0)) (scl (sqr x y) y (max l 0))) ∧ Below w.heap.size w w' := by
  by_cases h : sqr x y ≤ max l 0 * max l 0
  · rw [scl_id h, scl_id h]
    exact scale_short x y l hx1 hx2 hy1 hy2 h w
  · unfold scl
    rw [if_neg h, if_neg h]
    by_cases hl0 : l < 0
    · rw [show max l 0 = 0 from by omega] at h ⊢
      exact scale_long_neg x y l hx1 hx2 hy1 hy2 hl0 (by omega) w
    · rw [show max l 0 = l from by omega] at h ⊢
      exact scale_long_pos x y l hx1 hx2 hy1 hy2 (by omega) (by omega) w
end Go.Proofs.Ytfcianhmfpenhaa
