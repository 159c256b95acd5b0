/- Walks: small functions of the supervisor, of package separation and of the law. -/
import Derived.Test.YtfcianhmfpenhaaWe
import Derived.Test.YtfcianhmfpenhaaWf
import Derived.Lib.MinMax
namespace Go.Proofs.Ytfcianhmfpenhaa
open Go.RowKit
set_option linter.unusedVariables false
set_option linter.unusedSimpArgs false
theorem tk_ok {n : Int} (h1 : 0 ≤ n) (h2 : n ≤ 1099511627776) (w : World) : Calls Try.prog 20 #[.int .i64 n] w fun e w' => e = .returned (.bool true) ∧ w = w' := by
  go_enter Try.func20, Try.ntmps20
  go_wp2
  go_ret
  exact ⟨by simp; try omega, rfl⟩
theorem vt_ok {n : Int} (h1 : 0 ≤ n) (h2 : n ≤ 1099511627776) (w : World) : Calls Try.prog 29 #[.int .i64 n] w fun e w' => e = .returned (.bool true) ∧ w = w' := by
  go_enter Try.func29, Try.ntmps29
  go_wp2
  go_ret
  exact ⟨by simp; try omega, rfl⟩
theorem in_yes {x y : Int} (h1 : -1048576 ≤ x) (h2 : x ≤ 1048576) (h3 : -1048576 ≤ y) (h4 : y ≤ 1048576) (w : World) : Calls Try.prog 30 #[pt x y] w fun e w' => e = .returned (.bool true) ∧ Below w.heap.size w w' := by
  go_enter Try.func30, Try.ntmps30
  go_wp2
  go_ret
  exact ⟨by simp; try omega, by go_grown⟩
theorem near_yes {x y : Int} (h1 : -100000 ≤ x) (h2 : x ≤ 100000) (h3 : -100000 ≤ y) (h4 : y ≤ 100000) (w : World) : Calls Try.prog 8 #[pt x y] w fun e w' => e = .returned (.bool true) ∧ Below w.heap.size w w' := by
  go_enter Try.func8, Try.ntmps8
  go_wp2
  go_ret
  exact ⟨by simp; try omega, by go_grown⟩
theorem near_no {x y : Int} (h : ¬ (-100000 ≤ x ∧ x ≤ 100000 ∧ -100000 ≤ y ∧ y ≤ 100000)) (w : World) : Calls Try.prog 8 #[pt x y] w fun e w' => e = .returned (.bool false) ∧ Below w.heap.size w w' := by
  rcases Int.lt_or_le x (-100000) with h1 | h1
  · go_enter Try.func8, Try.ntmps8
    go_wp2
    go_ret
    exact ⟨by simp; try omega, by go_grown⟩
  · rcases Int.lt_or_le 100000 x with h2 | h2
    · go_enter Try.func8, Try.ntmps8
      go_wp2
      go_ret
      exact ⟨by simp; try omega, by go_grown⟩
    · rcases Int.lt_or_le y (-100000) with h3 | h3
      · go_enter Try.func8, Try.ntmps8
        go_wp2
        go_ret
        exact ⟨by simp; try omega, by go_grown⟩
      · go_enter Try.func8, Try.ntmps8
        go_wp2
        go_ret
        exact ⟨by simp; try omega, by go_grown⟩
def nearB (x y : Int) : Bool := decide (-100000 ≤ x ∧ x ≤ 100000 ∧ -100000 ≤ y ∧ y ≤ 100000)
theorem near_any (x y : Int) (w : World) : Calls Try.prog 8 #[pt x y] w fun e w' => e = .returned (.bool (nearB x y)) ∧ Below w.heap.size w w' := by
  by_cases h : -100000 ≤ x ∧ x ≤ 100000 ∧ -100000 ≤ y ∧ y ≤ 100000
  · have e : nearB x y = true := by unfold nearB; exact decide_eq_true h
    rw [e]
    exact near_yes h.1 h.2.1 h.2.2.1 h.2.2.2 w
  · have e : nearB x y = false := by unfold nearB; exact decide_eq_false h
    rw [e]
    exact near_no h w
theorem nearB_true {x y : Int} (h : nearB x y = true) : -100000 ≤ x ∧ x ≤ 100000 ∧ -100000 ≤ y ∧ y ≤ 100000 := by unfold nearB at h; simpa using h
theorem far_any (x y u v : Int) (hx1 : -16777216 ≤ x) (hx2 : x ≤ 16777216) (hy1 : -16777216 ≤ y) (hy2 : y ≤ 16777216) (hu1 : -16777216 ≤ u) (hu2 : u ≤ 16777216) (hv1 : -16777216 ≤ v) (hv2 : v ≤ 16777216) (w : World) :
    Calls Try.prog 12 #[pt x y, pt u v] w fun e w' => e = .returned (.int .i64 (sqr (x - u) (y - v))) ∧ Below w.heap.size w w' := by
  have p1 := sq_self_nonneg (x - u)
  have p2 := sq_self_nonneg (y - v)
  have p3 := sq_abs_le (x := x - u) (b := 33554432) (by omega) (by omega)
  have p4 := sq_abs_le (x := y - v) (b := 33554432) (by omega) (by omega)
  go_enter Try.func12, Try.ntmps12
  go_wp2
  go_ret
  exact ⟨rfl, by go_grown⟩
abbrev pers (a x y : Int) : Value := .agg #[.int .i64 a, .int .i64 x, .int .i64 y]
theorem age_any (a x y t : Int) (h1 : 0 ≤ a) (h2 : a ≤ 1099511627776) (h3 : 0 ≤ t) (h4 : t ≤ 1099511627776) (w : World) :
    Calls Try.prog 36 #[pers a x y, .int .i64 t] w fun e w' => e = .returned (.int .i64 (max (t - a) (a - t))) ∧ Below w.heap.size w w' := by
  go_enter Try.func36, Try.ntmps36
  go_wp2
  go_ret
  exact ⟨rfl, by go_grown⟩
/-- a supervisor in memory -/
structure Sup (w : World) (sb pb : Nat) (S A B H M kp al md : Int) : Prop where
  lt : sb < w.heap.size
  c0 : w.cell? ⟨sb, 0, none⟩ = some (.int .i64 S)
  c1 : w.cell? ⟨sb, 1, none⟩ = some (.int .i64 A)
  c2 : w.cell? ⟨sb, 2, none⟩ = some (.int .i64 B)
  c3 : w.cell? ⟨sb, 3, none⟩ = some (.int .i64 H)
  c4 : w.cell? ⟨sb, 4, none⟩ = some (.int .i64 M)
  c5 : w.cell? ⟨sb, 5, none⟩ = some (.pointer (some ⟨pb, 0, none⟩))
  c6 : w.cell? ⟨sb, 6, none⟩ = some (.int .i64 kp)
  c7 : w.cell? ⟨sb, 7, none⟩ = some (.int .i64 al)
  c8 : w.cell? ⟨sb, 8, none⟩ = some (.int .i64 md)
  f7 : w.frozen? ⟨sb, 7, none⟩ = false
  f8 : w.frozen? ⟨sb, 8, none⟩ = false
theorem Sup.alive {w : World} {sb pb : Nat} {S A B H M kp al md : Int} (h : Sup w sb pb S A B H M kp al md) (t : Int) : Sup (w.setCell ⟨sb, 7, none⟩ (.int .i64 t)) sb pb S A B H M kp t md := by
  obtain ⟨lt, c0, c1, c2, c3, c4, c5, c6, c7, c8, f7, f8⟩ := h
  constructor
  · simpa [World.setCell] using lt
  all_goals go_simp
theorem Sup.mode {w : World} {sb pb : Nat} {S A B H M kp al md : Int} (h : Sup w sb pb S A B H M kp al md) (t : Int) : Sup (w.setCell ⟨sb, 8, none⟩ (.int .i64 t)) sb pb S A B H M kp al t := by
  obtain ⟨lt, c0, c1, c2, c3, c4, c5, c6, c7, c8, f7, f8⟩ := h
  constructor
  · simpa [World.setCell] using lt
  all_goals go_simp
theorem Sup.kept {w w' : World} {sb pb : Nat} {S A B H M kp al md : Int} (h : Sup w sb pb S A B H M kp al md) (hl : sb < w'.heap.size) (hb : w'.heap[sb]? = w.heap[sb]?) : Sup w' sb pb S A B H M kp al md where
  lt := hl
  c0 := (World.cell?_of_block hb).trans h.c0
  c1 := (World.cell?_of_block hb).trans h.c1
  c2 := (World.cell?_of_block hb).trans h.c2
  c3 := (World.cell?_of_block hb).trans h.c3
  c4 := (World.cell?_of_block hb).trans h.c4
  c5 := (World.cell?_of_block hb).trans h.c5
  c6 := (World.cell?_of_block hb).trans h.c6
  c7 := (World.cell?_of_block hb).trans h.c7
  c8 := (World.cell?_of_block hb).trans h.c8
  f7 := (World.frozen?_of_block hb).trans h.f7
  f8 := (World.frozen?_of_block hb).trans h.f8
theorem Sup.below {w w' : World} {sb pb : Nat} {S A B H M kp al md : Int} (h : Sup w sb pb S A B H M kp al md) (hb : Below w.heap.size w w') : Sup w' sb pb S A B H M kp al md :=
  h.kept (Nat.lt_of_lt_of_le h.lt hb.size) (hb.block sb h.lt)
def demB (md : Int) : Bool := decide (md = 3) || decide (md = 4)
theorem dem_any {sb : Nat} {md : Int} (w : World) (k8 : w.cell? ⟨sb, 8, none⟩ = some (.int .i64 md)) : Calls Try.prog 24 #[.pointer (some ⟨sb, 0, none⟩)] w fun e w' => e = .returned (.bool (demB md)) ∧ w = w' := by
  by_cases h3 : md = 3
  · have e : demB md = true := by unfold demB; simp [h3]
    rw [e]
    subst h3
    go_enter Try.func24, Try.ntmps24
    go_wp2
    go_ret
    exact ⟨rfl, rfl⟩
  · by_cases h4 : md = 4
    · have e : demB md = true := by unfold demB; simp [h4]
      rw [e]
      subst h4
      go_enter Try.func24, Try.ntmps24
      go_wp2
      go_ret
      exact ⟨rfl, rfl⟩
    · have e : demB md = false := by unfold demB; simp [h3, h4]
      rw [e]
      go_enter Try.func24, Try.ntmps24
      go_wp2
      go_ret
      exact ⟨by simp [h3, h4], rfl⟩
theorem mode_any {sb : Nat} {md : Int} (w : World) (k8 : w.cell? ⟨sb, 8, none⟩ = some (.int .i64 md)) : Calls Try.prog 14 #[.pointer (some ⟨sb, 0, none⟩)] w fun e w' => e = .returned (.int .i64 md) ∧ w = w' := by
  go_enter Try.func14, Try.ntmps14
  go_wp2
  go_ret
  exact ⟨rfl, rfl⟩
theorem alive_ok {sb : Nat} {al t : Int} (w : World) (k7 : w.cell? ⟨sb, 7, none⟩ = some (.int .i64 al)) (f7 : w.frozen? ⟨sb, 7, none⟩ = false) (h1 : 0 ≤ t) (h2 : t ≤ 1099511627776) (h3 : al ≤ t) :
    Calls Try.prog 10 #[.pointer (some ⟨sb, 0, none⟩), .int .i64 t] w fun e w' => e = .returned (.int .i64 0) ∧ w' = w.setCell ⟨sb, 7, none⟩ (.int .i64 t) := by
  have HT := hid (fun w => tk_ok h1 h2 w)
  go_enter Try.func10, Try.ntmps10
  go_wp2_with (first | (go_at_call 20; (with_reducible refine (HT.out _).mono ?_); rintro e w2 ⟨rfl, rfl⟩))
  go_ret
  exact ⟨rfl, rfl⟩
theorem stop_ok {sb : Nat} {md t : Int} (w : World) (k8 : w.cell? ⟨sb, 8, none⟩ = some (.int .i64 md)) (f8 : w.frozen? ⟨sb, 8, none⟩ = false) (h1 : 0 ≤ t) (h2 : t ≤ 1099511627776) (h3 : demB md = false) :
    Calls Try.prog 13 #[.pointer (some ⟨sb, 0, none⟩), .int .i64 t] w fun e w' => e = .returned (.int .i64 0) ∧ w' = w.setCell ⟨sb, 8, none⟩ (.int .i64 3) := by
  have HT := hid (fun w => tk_ok h1 h2 w)
  have HD := hid (dem_any w k8)
  rw [h3] at HD
  go_enter Try.func13, Try.ntmps13
  go_wp2_with (first | (go_at_call 20; (with_reducible refine (HT.out _).mono ?_); rintro e w2 ⟨rfl, rfl⟩) | (go_at_call 24; (with_reducible refine HD.out.mono ?_); rintro e w2 ⟨rfl, rfl⟩))
  go_ret
  exact ⟨rfl, rfl⟩
theorem reset_ok {sb : Nat} {t : Int} (w : World) (k8 : w.cell? ⟨sb, 8, none⟩ = some (.int .i64 4)) (f8 : w.frozen? ⟨sb, 8, none⟩ = false) (h1 : 0 ≤ t) (h2 : t ≤ 1099511627776) :
    Calls Try.prog 15 #[.pointer (some ⟨sb, 0, none⟩), .int .i64 t] w fun e w' => e = .returned (.int .i64 0) ∧ w' = w.setCell ⟨sb, 8, none⟩ (.int .i64 1) := by
  have HT := hid (fun w => tk_ok h1 h2 w)
  go_enter Try.func15, Try.ntmps15
  go_wp2_with (first | (go_at_call 20; (with_reducible refine (HT.out _).mono ?_); rintro e w2 ⟨rfl, rfl⟩))
  go_ret
  exact ⟨rfl, rfl⟩
end Go.Proofs.Ytfcianhmfpenhaa
