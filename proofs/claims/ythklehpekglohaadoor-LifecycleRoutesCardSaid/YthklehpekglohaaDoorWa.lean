/- Walks: the table of the transitions, Next and the reference's Next. -/
import Derived.Test.YthklehpekglohaaDoorBase
import Derived.Test.YthklehpekglohaaDoorNx
import Derived.Test.YthklehpekglohaaDoorChecked
import Derived.RowKit
namespace Go.Proofs.YthklehpekglohaaDoor
open Go.RowKit
set_option linter.unusedVariables false
set_option linter.unusedSimpArgs false
/-- the table's cells -/
def tbl : List Value := [.bool true, .bool false, .bool false, .bool false, .int .i64 2, .int .i64 1, .bool false, .bool true, .bool false, .bool false, .int .i64 3, .int .i64 2, .bool false, .bool false, .bool true, .bool false, .int .i64 2, .int .i64 1, .bool false, .bool true, .bool false, .bool false, .int .i64 1, .int .i64 1, .bool true, .bool true, .bool true, .bool false, .int .i64 4, .int .i64 4]
/-- the table lies in the variable -/
def Rules (w : World) : Prop := ∀ (i : Nat) (v : Value), tbl[i]? = some v → w.cell? ⟨0, i, none⟩ = some v
theorem Rules.pos {w : World} (h : Rules w) : 0 < w.heap.size := World.block_lt_of_cell? w ⟨0, 0, none⟩ (h 0 _ rfl)
theorem Rules.below {w w' : World} {n : Nat} (h : Rules w) (hn : 0 < n) (hb : Below n w w') : Rules w' := fun i v e => (hb.cell (p := ⟨0, i, none⟩) (by dsimp only; omega)).trans (h i v e)
theorem in31 (n lo hi : Int) (w : World) : Calls Tryd.prog 31 #[.int .i64 n, .int .i64 lo, .int .i64 hi] w fun e w' => e = .returned (.bool (decide (lo ≤ n) && decide (n ≤ hi))) ∧ w = w' := by
  go_enter Tryd.func31, Tryd.ntmps31
  by_cases h1 : lo ≤ n <;> by_cases h2 : n ≤ hi <;> (go_wp2_with fail) <;> go_ret <;> exact ⟨by simp [*], rfl⟩
theorem st32 (n : Int) (w : World) : Calls Tryd.prog 32 #[.int .i64 n] w fun e w' => e = .returned (.bool (decide (1 ≤ n) && decide (n ≤ 4))) ∧ w = w' := by
  go_enter Tryd.func32, Tryd.ntmps32
  by_cases h1 : 1 ≤ n <;> by_cases h2 : n ≤ 4 <;> (go_wp2_with fail) <;> go_ret <;> exact ⟨by simp [*], rfl⟩
theorem n23_1_1 (ok : Bool) (w : World) (hR : Rules w) : Calls Tryd.prog 23 #[.int .i64 1, .int .i64 1, .bool ok] w fun e w' => e = .returned (.tuple #[.int .i64 (nx 1 1 ok).1, .int .i64 (nx 1 1 ok).2]) ∧ Below w.heap.size w w' := by
  have c0 : w.cell? ⟨0, 0, none⟩ = some (.bool true) := hR 0 _ rfl
  have c1 : w.cell? ⟨0, 1, none⟩ = some (.bool false) := hR 1 _ rfl
  have c2 : w.cell? ⟨0, 2, none⟩ = some (.bool false) := hR 2 _ rfl
  have c3 : w.cell? ⟨0, 3, none⟩ = some (.bool false) := hR 3 _ rfl
  have c4 : w.cell? ⟨0, 4, none⟩ = some (.int .i64 2) := hR 4 _ rfl
  have c5 : w.cell? ⟨0, 5, none⟩ = some (.int .i64 1) := hR 5 _ rfl
  clear hR
  cases ok
  · go_enter Tryd.func23, Tryd.ntmps23
    go_wp2_with (first | (go_at_call 31; refine (in31 _ _ _ _).mono ?_; rintro e w1 ⟨rfl, rfl⟩))
    refine bodyPost_ret (v := .tuple #[.int .i64 1, .int .i64 0]) (by simp [results, Tryd.results23, go_sem]) rfl ?_
    exact ⟨rfl, Below.alloc (Below.refl _ _) (Nat.le_refl _) _⟩
  · go_enter Tryd.func23, Tryd.ntmps23
    go_wp2_with (first | (go_at_call 31; refine (in31 _ _ _ _).mono ?_; rintro e w1 ⟨rfl, rfl⟩))
    refine bodyPost_ret (v := .tuple #[.int .i64 2, .int .i64 0]) (by simp [results, Tryd.results23, go_sem]) rfl ?_
    exact ⟨rfl, Below.alloc (Below.refl _ _) (Nat.le_refl _) _⟩
theorem n23_1_2 (ok : Bool) (w : World) (hR : Rules w) : Calls Tryd.prog 23 #[.int .i64 2, .int .i64 1, .bool ok] w fun e w' => e = .returned (.tuple #[.int .i64 (nx 2 1 ok).1, .int .i64 (nx 2 1 ok).2]) ∧ Below w.heap.size w w' := by
  have c0 : w.cell? ⟨0, 0, none⟩ = some (.bool true) := hR 0 _ rfl
  have c1 : w.cell? ⟨0, 1, none⟩ = some (.bool false) := hR 1 _ rfl
  have c2 : w.cell? ⟨0, 2, none⟩ = some (.bool false) := hR 2 _ rfl
  have c3 : w.cell? ⟨0, 3, none⟩ = some (.bool false) := hR 3 _ rfl
  have c4 : w.cell? ⟨0, 4, none⟩ = some (.int .i64 2) := hR 4 _ rfl
  have c5 : w.cell? ⟨0, 5, none⟩ = some (.int .i64 1) := hR 5 _ rfl
  clear hR
  cases ok
  · go_enter Tryd.func23, Tryd.ntmps23
    go_wp2_with (first | (go_at_call 31; refine (in31 _ _ _ _).mono ?_; rintro e w1 ⟨rfl, rfl⟩))
    refine bodyPost_ret (v := .tuple #[.int .i64 0, .int .i64 10]) (by simp [results, Tryd.results23, go_sem]) rfl ?_
    exact ⟨rfl, Below.alloc (Below.refl _ _) (Nat.le_refl _) _⟩
  · go_enter Tryd.func23, Tryd.ntmps23
    go_wp2_with (first | (go_at_call 31; refine (in31 _ _ _ _).mono ?_; rintro e w1 ⟨rfl, rfl⟩))
    refine bodyPost_ret (v := .tuple #[.int .i64 0, .int .i64 10]) (by simp [results, Tryd.results23, go_sem]) rfl ?_
    exact ⟨rfl, Below.alloc (Below.refl _ _) (Nat.le_refl _) _⟩
theorem n23_1_3 (ok : Bool) (w : World) (hR : Rules w) : Calls Tryd.prog 23 #[.int .i64 3, .int .i64 1, .bool ok] w fun e w' => e = .returned (.tuple #[.int .i64 (nx 3 1 ok).1, .int .i64 (nx 3 1 ok).2]) ∧ Below w.heap.size w w' := by
  have c0 : w.cell? ⟨0, 0, none⟩ = some (.bool true) := hR 0 _ rfl
  have c1 : w.cell? ⟨0, 1, none⟩ = some (.bool false) := hR 1 _ rfl
  have c2 : w.cell? ⟨0, 2, none⟩ = some (.bool false) := hR 2 _ rfl
  have c3 : w.cell? ⟨0, 3, none⟩ = some (.bool false) := hR 3 _ rfl
  have c4 : w.cell? ⟨0, 4, none⟩ = some (.int .i64 2) := hR 4 _ rfl
  have c5 : w.cell? ⟨0, 5, none⟩ = some (.int .i64 1) := hR 5 _ rfl
  clear hR
  cases ok
  · go_enter Tryd.func23, Tryd.ntmps23
    go_wp2_with (first | (go_at_call 31; refine (in31 _ _ _ _).mono ?_; rintro e w1 ⟨rfl, rfl⟩))
    refine bodyPost_ret (v := .tuple #[.int .i64 0, .int .i64 10]) (by simp [results, Tryd.results23, go_sem]) rfl ?_
    exact ⟨rfl, Below.alloc (Below.refl _ _) (Nat.le_refl _) _⟩
  · go_enter Tryd.func23, Tryd.ntmps23
    go_wp2_with (first | (go_at_call 31; refine (in31 _ _ _ _).mono ?_; rintro e w1 ⟨rfl, rfl⟩))
    refine bodyPost_ret (v := .tuple #[.int .i64 0, .int .i64 10]) (by simp [results, Tryd.results23, go_sem]) rfl ?_
    exact ⟨rfl, Below.alloc (Below.refl _ _) (Nat.le_refl _) _⟩
theorem n23_1_4 (ok : Bool) (w : World) (hR : Rules w) : Calls Tryd.prog 23 #[.int .i64 4, .int .i64 1, .bool ok] w fun e w' => e = .returned (.tuple #[.int .i64 (nx 4 1 ok).1, .int .i64 (nx 4 1 ok).2]) ∧ Below w.heap.size w w' := by
  have c0 : w.cell? ⟨0, 0, none⟩ = some (.bool true) := hR 0 _ rfl
  have c1 : w.cell? ⟨0, 1, none⟩ = some (.bool false) := hR 1 _ rfl
  have c2 : w.cell? ⟨0, 2, none⟩ = some (.bool false) := hR 2 _ rfl
  have c3 : w.cell? ⟨0, 3, none⟩ = some (.bool false) := hR 3 _ rfl
  have c4 : w.cell? ⟨0, 4, none⟩ = some (.int .i64 2) := hR 4 _ rfl
  have c5 : w.cell? ⟨0, 5, none⟩ = some (.int .i64 1) := hR 5 _ rfl
  clear hR
  cases ok
  · go_enter Tryd.func23, Tryd.ntmps23
    go_wp2_with (first | (go_at_call 31; refine (in31 _ _ _ _).mono ?_; rintro e w1 ⟨rfl, rfl⟩))
    refine bodyPost_ret (v := .tuple #[.int .i64 0, .int .i64 10]) (by simp [results, Tryd.results23, go_sem]) rfl ?_
    exact ⟨rfl, Below.alloc (Below.refl _ _) (Nat.le_refl _) _⟩
  · go_enter Tryd.func23, Tryd.ntmps23
    go_wp2_with (first | (go_at_call 31; refine (in31 _ _ _ _).mono ?_; rintro e w1 ⟨rfl, rfl⟩))
    refine bodyPost_ret (v := .tuple #[.int .i64 0, .int .i64 10]) (by simp [results, Tryd.results23, go_sem]) rfl ?_
    exact ⟨rfl, Below.alloc (Below.refl _ _) (Nat.le_refl _) _⟩
theorem n23_2_1 (ok : Bool) (w : World) (hR : Rules w) : Calls Tryd.prog 23 #[.int .i64 1, .int .i64 2, .bool ok] w fun e w' => e = .returned (.tuple #[.int .i64 (nx 1 2 ok).1, .int .i64 (nx 1 2 ok).2]) ∧ Below w.heap.size w w' := by
  have c0 : w.cell? ⟨0, 6, none⟩ = some (.bool false) := hR 6 _ rfl
  have c1 : w.cell? ⟨0, 7, none⟩ = some (.bool true) := hR 7 _ rfl
  have c2 : w.cell? ⟨0, 8, none⟩ = some (.bool false) := hR 8 _ rfl
  have c3 : w.cell? ⟨0, 9, none⟩ = some (.bool false) := hR 9 _ rfl
  have c4 : w.cell? ⟨0, 10, none⟩ = some (.int .i64 3) := hR 10 _ rfl
  have c5 : w.cell? ⟨0, 11, none⟩ = some (.int .i64 2) := hR 11 _ rfl
  clear hR
  cases ok
  · go_enter Tryd.func23, Tryd.ntmps23
    go_wp2_with (first | (go_at_call 31; refine (in31 _ _ _ _).mono ?_; rintro e w1 ⟨rfl, rfl⟩))
    refine bodyPost_ret (v := .tuple #[.int .i64 0, .int .i64 10]) (by simp [results, Tryd.results23, go_sem]) rfl ?_
    exact ⟨rfl, Below.alloc (Below.refl _ _) (Nat.le_refl _) _⟩
  · go_enter Tryd.func23, Tryd.ntmps23
    go_wp2_with (first | (go_at_call 31; refine (in31 _ _ _ _).mono ?_; rintro e w1 ⟨rfl, rfl⟩))
    refine bodyPost_ret (v := .tuple #[.int .i64 0, .int .i64 10]) (by simp [results, Tryd.results23, go_sem]) rfl ?_
    exact ⟨rfl, Below.alloc (Below.refl _ _) (Nat.le_refl _) _⟩
theorem n23_2_2 (ok : Bool) (w : World) (hR : Rules w) : Calls Tryd.prog 23 #[.int .i64 2, .int .i64 2, .bool ok] w fun e w' => e = .returned (.tuple #[.int .i64 (nx 2 2 ok).1, .int .i64 (nx 2 2 ok).2]) ∧ Below w.heap.size w w' := by
  have c0 : w.cell? ⟨0, 6, none⟩ = some (.bool false) := hR 6 _ rfl
  have c1 : w.cell? ⟨0, 7, none⟩ = some (.bool true) := hR 7 _ rfl
  have c2 : w.cell? ⟨0, 8, none⟩ = some (.bool false) := hR 8 _ rfl
  have c3 : w.cell? ⟨0, 9, none⟩ = some (.bool false) := hR 9 _ rfl
  have c4 : w.cell? ⟨0, 10, none⟩ = some (.int .i64 3) := hR 10 _ rfl
  have c5 : w.cell? ⟨0, 11, none⟩ = some (.int .i64 2) := hR 11 _ rfl
  clear hR
  cases ok
  · go_enter Tryd.func23, Tryd.ntmps23
    go_wp2_with (first | (go_at_call 31; refine (in31 _ _ _ _).mono ?_; rintro e w1 ⟨rfl, rfl⟩))
    refine bodyPost_ret (v := .tuple #[.int .i64 2, .int .i64 0]) (by simp [results, Tryd.results23, go_sem]) rfl ?_
    exact ⟨rfl, Below.alloc (Below.refl _ _) (Nat.le_refl _) _⟩
  · go_enter Tryd.func23, Tryd.ntmps23
    go_wp2_with (first | (go_at_call 31; refine (in31 _ _ _ _).mono ?_; rintro e w1 ⟨rfl, rfl⟩))
    refine bodyPost_ret (v := .tuple #[.int .i64 3, .int .i64 0]) (by simp [results, Tryd.results23, go_sem]) rfl ?_
    exact ⟨rfl, Below.alloc (Below.refl _ _) (Nat.le_refl _) _⟩
theorem n23_2_3 (ok : Bool) (w : World) (hR : Rules w) : Calls Tryd.prog 23 #[.int .i64 3, .int .i64 2, .bool ok] w fun e w' => e = .returned (.tuple #[.int .i64 (nx 3 2 ok).1, .int .i64 (nx 3 2 ok).2]) ∧ Below w.heap.size w w' := by
  have c0 : w.cell? ⟨0, 6, none⟩ = some (.bool false) := hR 6 _ rfl
  have c1 : w.cell? ⟨0, 7, none⟩ = some (.bool true) := hR 7 _ rfl
  have c2 : w.cell? ⟨0, 8, none⟩ = some (.bool false) := hR 8 _ rfl
  have c3 : w.cell? ⟨0, 9, none⟩ = some (.bool false) := hR 9 _ rfl
  have c4 : w.cell? ⟨0, 10, none⟩ = some (.int .i64 3) := hR 10 _ rfl
  have c5 : w.cell? ⟨0, 11, none⟩ = some (.int .i64 2) := hR 11 _ rfl
  clear hR
  cases ok
  · go_enter Tryd.func23, Tryd.ntmps23
    go_wp2_with (first | (go_at_call 31; refine (in31 _ _ _ _).mono ?_; rintro e w1 ⟨rfl, rfl⟩))
    refine bodyPost_ret (v := .tuple #[.int .i64 0, .int .i64 10]) (by simp [results, Tryd.results23, go_sem]) rfl ?_
    exact ⟨rfl, Below.alloc (Below.refl _ _) (Nat.le_refl _) _⟩
  · go_enter Tryd.func23, Tryd.ntmps23
    go_wp2_with (first | (go_at_call 31; refine (in31 _ _ _ _).mono ?_; rintro e w1 ⟨rfl, rfl⟩))
    refine bodyPost_ret (v := .tuple #[.int .i64 0, .int .i64 10]) (by simp [results, Tryd.results23, go_sem]) rfl ?_
    exact ⟨rfl, Below.alloc (Below.refl _ _) (Nat.le_refl _) _⟩
theorem n23_2_4 (ok : Bool) (w : World) (hR : Rules w) : Calls Tryd.prog 23 #[.int .i64 4, .int .i64 2, .bool ok] w fun e w' => e = .returned (.tuple #[.int .i64 (nx 4 2 ok).1, .int .i64 (nx 4 2 ok).2]) ∧ Below w.heap.size w w' := by
  have c0 : w.cell? ⟨0, 6, none⟩ = some (.bool false) := hR 6 _ rfl
  have c1 : w.cell? ⟨0, 7, none⟩ = some (.bool true) := hR 7 _ rfl
  have c2 : w.cell? ⟨0, 8, none⟩ = some (.bool false) := hR 8 _ rfl
  have c3 : w.cell? ⟨0, 9, none⟩ = some (.bool false) := hR 9 _ rfl
  have c4 : w.cell? ⟨0, 10, none⟩ = some (.int .i64 3) := hR 10 _ rfl
  have c5 : w.cell? ⟨0, 11, none⟩ = some (.int .i64 2) := hR 11 _ rfl
  clear hR
  cases ok
  · go_enter Tryd.func23, Tryd.ntmps23
    go_wp2_with (first | (go_at_call 31; refine (in31 _ _ _ _).mono ?_; rintro e w1 ⟨rfl, rfl⟩))
    refine bodyPost_ret (v := .tuple #[.int .i64 0, .int .i64 10]) (by simp [results, Tryd.results23, go_sem]) rfl ?_
    exact ⟨rfl, Below.alloc (Below.refl _ _) (Nat.le_refl _) _⟩
  · go_enter Tryd.func23, Tryd.ntmps23
    go_wp2_with (first | (go_at_call 31; refine (in31 _ _ _ _).mono ?_; rintro e w1 ⟨rfl, rfl⟩))
    refine bodyPost_ret (v := .tuple #[.int .i64 0, .int .i64 10]) (by simp [results, Tryd.results23, go_sem]) rfl ?_
    exact ⟨rfl, Below.alloc (Below.refl _ _) (Nat.le_refl _) _⟩
theorem n23_3_1 (ok : Bool) (w : World) (hR : Rules w) : Calls Tryd.prog 23 #[.int .i64 1, .int .i64 3, .bool ok] w fun e w' => e = .returned (.tuple #[.int .i64 (nx 1 3 ok).1, .int .i64 (nx 1 3 ok).2]) ∧ Below w.heap.size w w' := by
  have c0 : w.cell? ⟨0, 12, none⟩ = some (.bool false) := hR 12 _ rfl
  have c1 : w.cell? ⟨0, 13, none⟩ = some (.bool false) := hR 13 _ rfl
  have c2 : w.cell? ⟨0, 14, none⟩ = some (.bool true) := hR 14 _ rfl
  have c3 : w.cell? ⟨0, 15, none⟩ = some (.bool false) := hR 15 _ rfl
  have c4 : w.cell? ⟨0, 16, none⟩ = some (.int .i64 2) := hR 16 _ rfl
  have c5 : w.cell? ⟨0, 17, none⟩ = some (.int .i64 1) := hR 17 _ rfl
  clear hR
  cases ok
  · go_enter Tryd.func23, Tryd.ntmps23
    go_wp2_with (first | (go_at_call 31; refine (in31 _ _ _ _).mono ?_; rintro e w1 ⟨rfl, rfl⟩))
    refine bodyPost_ret (v := .tuple #[.int .i64 0, .int .i64 10]) (by simp [results, Tryd.results23, go_sem]) rfl ?_
    exact ⟨rfl, Below.alloc (Below.refl _ _) (Nat.le_refl _) _⟩
  · go_enter Tryd.func23, Tryd.ntmps23
    go_wp2_with (first | (go_at_call 31; refine (in31 _ _ _ _).mono ?_; rintro e w1 ⟨rfl, rfl⟩))
    refine bodyPost_ret (v := .tuple #[.int .i64 0, .int .i64 10]) (by simp [results, Tryd.results23, go_sem]) rfl ?_
    exact ⟨rfl, Below.alloc (Below.refl _ _) (Nat.le_refl _) _⟩
theorem n23_3_2 (ok : Bool) (w : World) (hR : Rules w) : Calls Tryd.prog 23 #[.int .i64 2, .int .i64 3, .bool ok] w fun e w' => e = .returned (.tuple #[.int .i64 (nx 2 3 ok).1, .int .i64 (nx 2 3 ok).2]) ∧ Below w.heap.size w w' := by
  have c0 : w.cell? ⟨0, 12, none⟩ = some (.bool false) := hR 12 _ rfl
  have c1 : w.cell? ⟨0, 13, none⟩ = some (.bool false) := hR 13 _ rfl
  have c2 : w.cell? ⟨0, 14, none⟩ = some (.bool true) := hR 14 _ rfl
  have c3 : w.cell? ⟨0, 15, none⟩ = some (.bool false) := hR 15 _ rfl
  have c4 : w.cell? ⟨0, 16, none⟩ = some (.int .i64 2) := hR 16 _ rfl
  have c5 : w.cell? ⟨0, 17, none⟩ = some (.int .i64 1) := hR 17 _ rfl
  clear hR
  cases ok
  · go_enter Tryd.func23, Tryd.ntmps23
    go_wp2_with (first | (go_at_call 31; refine (in31 _ _ _ _).mono ?_; rintro e w1 ⟨rfl, rfl⟩))
    refine bodyPost_ret (v := .tuple #[.int .i64 0, .int .i64 10]) (by simp [results, Tryd.results23, go_sem]) rfl ?_
    exact ⟨rfl, Below.alloc (Below.refl _ _) (Nat.le_refl _) _⟩
  · go_enter Tryd.func23, Tryd.ntmps23
    go_wp2_with (first | (go_at_call 31; refine (in31 _ _ _ _).mono ?_; rintro e w1 ⟨rfl, rfl⟩))
    refine bodyPost_ret (v := .tuple #[.int .i64 0, .int .i64 10]) (by simp [results, Tryd.results23, go_sem]) rfl ?_
    exact ⟨rfl, Below.alloc (Below.refl _ _) (Nat.le_refl _) _⟩
theorem n23_3_3 (ok : Bool) (w : World) (hR : Rules w) : Calls Tryd.prog 23 #[.int .i64 3, .int .i64 3, .bool ok] w fun e w' => e = .returned (.tuple #[.int .i64 (nx 3 3 ok).1, .int .i64 (nx 3 3 ok).2]) ∧ Below w.heap.size w w' := by
  have c0 : w.cell? ⟨0, 12, none⟩ = some (.bool false) := hR 12 _ rfl
  have c1 : w.cell? ⟨0, 13, none⟩ = some (.bool false) := hR 13 _ rfl
  have c2 : w.cell? ⟨0, 14, none⟩ = some (.bool true) := hR 14 _ rfl
  have c3 : w.cell? ⟨0, 15, none⟩ = some (.bool false) := hR 15 _ rfl
  have c4 : w.cell? ⟨0, 16, none⟩ = some (.int .i64 2) := hR 16 _ rfl
  have c5 : w.cell? ⟨0, 17, none⟩ = some (.int .i64 1) := hR 17 _ rfl
  clear hR
  cases ok
  · go_enter Tryd.func23, Tryd.ntmps23
    go_wp2_with (first | (go_at_call 31; refine (in31 _ _ _ _).mono ?_; rintro e w1 ⟨rfl, rfl⟩))
    refine bodyPost_ret (v := .tuple #[.int .i64 1, .int .i64 0]) (by simp [results, Tryd.results23, go_sem]) rfl ?_
    exact ⟨rfl, Below.alloc (Below.refl _ _) (Nat.le_refl _) _⟩
  · go_enter Tryd.func23, Tryd.ntmps23
    go_wp2_with (first | (go_at_call 31; refine (in31 _ _ _ _).mono ?_; rintro e w1 ⟨rfl, rfl⟩))
    refine bodyPost_ret (v := .tuple #[.int .i64 2, .int .i64 0]) (by simp [results, Tryd.results23, go_sem]) rfl ?_
    exact ⟨rfl, Below.alloc (Below.refl _ _) (Nat.le_refl _) _⟩
theorem n23_3_4 (ok : Bool) (w : World) (hR : Rules w) : Calls Tryd.prog 23 #[.int .i64 4, .int .i64 3, .bool ok] w fun e w' => e = .returned (.tuple #[.int .i64 (nx 4 3 ok).1, .int .i64 (nx 4 3 ok).2]) ∧ Below w.heap.size w w' := by
  have c0 : w.cell? ⟨0, 12, none⟩ = some (.bool false) := hR 12 _ rfl
  have c1 : w.cell? ⟨0, 13, none⟩ = some (.bool false) := hR 13 _ rfl
  have c2 : w.cell? ⟨0, 14, none⟩ = some (.bool true) := hR 14 _ rfl
  have c3 : w.cell? ⟨0, 15, none⟩ = some (.bool false) := hR 15 _ rfl
  have c4 : w.cell? ⟨0, 16, none⟩ = some (.int .i64 2) := hR 16 _ rfl
  have c5 : w.cell? ⟨0, 17, none⟩ = some (.int .i64 1) := hR 17 _ rfl
  clear hR
  cases ok
  · go_enter Tryd.func23, Tryd.ntmps23
    go_wp2_with (first | (go_at_call 31; refine (in31 _ _ _ _).mono ?_; rintro e w1 ⟨rfl, rfl⟩))
    refine bodyPost_ret (v := .tuple #[.int .i64 0, .int .i64 10]) (by simp [results, Tryd.results23, go_sem]) rfl ?_
    exact ⟨rfl, Below.alloc (Below.refl _ _) (Nat.le_refl _) _⟩
  · go_enter Tryd.func23, Tryd.ntmps23
    go_wp2_with (first | (go_at_call 31; refine (in31 _ _ _ _).mono ?_; rintro e w1 ⟨rfl, rfl⟩))
    refine bodyPost_ret (v := .tuple #[.int .i64 0, .int .i64 10]) (by simp [results, Tryd.results23, go_sem]) rfl ?_
    exact ⟨rfl, Below.alloc (Below.refl _ _) (Nat.le_refl _) _⟩
theorem n23_4_1 (ok : Bool) (w : World) (hR : Rules w) : Calls Tryd.prog 23 #[.int .i64 1, .int .i64 4, .bool ok] w fun e w' => e = .returned (.tuple #[.int .i64 (nx 1 4 ok).1, .int .i64 (nx 1 4 ok).2]) ∧ Below w.heap.size w w' := by
  have c0 : w.cell? ⟨0, 18, none⟩ = some (.bool false) := hR 18 _ rfl
  have c1 : w.cell? ⟨0, 19, none⟩ = some (.bool true) := hR 19 _ rfl
  have c2 : w.cell? ⟨0, 20, none⟩ = some (.bool false) := hR 20 _ rfl
  have c3 : w.cell? ⟨0, 21, none⟩ = some (.bool false) := hR 21 _ rfl
  have c4 : w.cell? ⟨0, 22, none⟩ = some (.int .i64 1) := hR 22 _ rfl
  have c5 : w.cell? ⟨0, 23, none⟩ = some (.int .i64 1) := hR 23 _ rfl
  clear hR
  cases ok
  · go_enter Tryd.func23, Tryd.ntmps23
    go_wp2_with (first | (go_at_call 31; refine (in31 _ _ _ _).mono ?_; rintro e w1 ⟨rfl, rfl⟩))
    refine bodyPost_ret (v := .tuple #[.int .i64 0, .int .i64 10]) (by simp [results, Tryd.results23, go_sem]) rfl ?_
    exact ⟨rfl, Below.alloc (Below.refl _ _) (Nat.le_refl _) _⟩
  · go_enter Tryd.func23, Tryd.ntmps23
    go_wp2_with (first | (go_at_call 31; refine (in31 _ _ _ _).mono ?_; rintro e w1 ⟨rfl, rfl⟩))
    refine bodyPost_ret (v := .tuple #[.int .i64 0, .int .i64 10]) (by simp [results, Tryd.results23, go_sem]) rfl ?_
    exact ⟨rfl, Below.alloc (Below.refl _ _) (Nat.le_refl _) _⟩
theorem n23_4_2 (ok : Bool) (w : World) (hR : Rules w) : Calls Tryd.prog 23 #[.int .i64 2, .int .i64 4, .bool ok] w fun e w' => e = .returned (.tuple #[.int .i64 (nx 2 4 ok).1, .int .i64 (nx 2 4 ok).2]) ∧ Below w.heap.size w w' := by
  have c0 : w.cell? ⟨0, 18, none⟩ = some (.bool false) := hR 18 _ rfl
  have c1 : w.cell? ⟨0, 19, none⟩ = some (.bool true) := hR 19 _ rfl
  have c2 : w.cell? ⟨0, 20, none⟩ = some (.bool false) := hR 20 _ rfl
  have c3 : w.cell? ⟨0, 21, none⟩ = some (.bool false) := hR 21 _ rfl
  have c4 : w.cell? ⟨0, 22, none⟩ = some (.int .i64 1) := hR 22 _ rfl
  have c5 : w.cell? ⟨0, 23, none⟩ = some (.int .i64 1) := hR 23 _ rfl
  clear hR
  cases ok
  · go_enter Tryd.func23, Tryd.ntmps23
    go_wp2_with (first | (go_at_call 31; refine (in31 _ _ _ _).mono ?_; rintro e w1 ⟨rfl, rfl⟩))
    refine bodyPost_ret (v := .tuple #[.int .i64 1, .int .i64 0]) (by simp [results, Tryd.results23, go_sem]) rfl ?_
    exact ⟨rfl, Below.alloc (Below.refl _ _) (Nat.le_refl _) _⟩
  · go_enter Tryd.func23, Tryd.ntmps23
    go_wp2_with (first | (go_at_call 31; refine (in31 _ _ _ _).mono ?_; rintro e w1 ⟨rfl, rfl⟩))
    refine bodyPost_ret (v := .tuple #[.int .i64 1, .int .i64 0]) (by simp [results, Tryd.results23, go_sem]) rfl ?_
    exact ⟨rfl, Below.alloc (Below.refl _ _) (Nat.le_refl _) _⟩
theorem n23_4_3 (ok : Bool) (w : World) (hR : Rules w) : Calls Tryd.prog 23 #[.int .i64 3, .int .i64 4, .bool ok] w fun e w' => e = .returned (.tuple #[.int .i64 (nx 3 4 ok).1, .int .i64 (nx 3 4 ok).2]) ∧ Below w.heap.size w w' := by
  have c0 : w.cell? ⟨0, 18, none⟩ = some (.bool false) := hR 18 _ rfl
  have c1 : w.cell? ⟨0, 19, none⟩ = some (.bool true) := hR 19 _ rfl
  have c2 : w.cell? ⟨0, 20, none⟩ = some (.bool false) := hR 20 _ rfl
  have c3 : w.cell? ⟨0, 21, none⟩ = some (.bool false) := hR 21 _ rfl
  have c4 : w.cell? ⟨0, 22, none⟩ = some (.int .i64 1) := hR 22 _ rfl
  have c5 : w.cell? ⟨0, 23, none⟩ = some (.int .i64 1) := hR 23 _ rfl
  clear hR
  cases ok
  · go_enter Tryd.func23, Tryd.ntmps23
    go_wp2_with (first | (go_at_call 31; refine (in31 _ _ _ _).mono ?_; rintro e w1 ⟨rfl, rfl⟩))
    refine bodyPost_ret (v := .tuple #[.int .i64 0, .int .i64 10]) (by simp [results, Tryd.results23, go_sem]) rfl ?_
    exact ⟨rfl, Below.alloc (Below.refl _ _) (Nat.le_refl _) _⟩
  · go_enter Tryd.func23, Tryd.ntmps23
    go_wp2_with (first | (go_at_call 31; refine (in31 _ _ _ _).mono ?_; rintro e w1 ⟨rfl, rfl⟩))
    refine bodyPost_ret (v := .tuple #[.int .i64 0, .int .i64 10]) (by simp [results, Tryd.results23, go_sem]) rfl ?_
    exact ⟨rfl, Below.alloc (Below.refl _ _) (Nat.le_refl _) _⟩
theorem n23_4_4 (ok : Bool) (w : World) (hR : Rules w) : Calls Tryd.prog 23 #[.int .i64 4, .int .i64 4, .bool ok] w fun e w' => e = .returned (.tuple #[.int .i64 (nx 4 4 ok).1, .int .i64 (nx 4 4 ok).2]) ∧ Below w.heap.size w w' := by
  have c0 : w.cell? ⟨0, 18, none⟩ = some (.bool false) := hR 18 _ rfl
  have c1 : w.cell? ⟨0, 19, none⟩ = some (.bool true) := hR 19 _ rfl
  have c2 : w.cell? ⟨0, 20, none⟩ = some (.bool false) := hR 20 _ rfl
  have c3 : w.cell? ⟨0, 21, none⟩ = some (.bool false) := hR 21 _ rfl
  have c4 : w.cell? ⟨0, 22, none⟩ = some (.int .i64 1) := hR 22 _ rfl
  have c5 : w.cell? ⟨0, 23, none⟩ = some (.int .i64 1) := hR 23 _ rfl
  clear hR
  cases ok
  · go_enter Tryd.func23, Tryd.ntmps23
    go_wp2_with (first | (go_at_call 31; refine (in31 _ _ _ _).mono ?_; rintro e w1 ⟨rfl, rfl⟩))
    refine bodyPost_ret (v := .tuple #[.int .i64 0, .int .i64 10]) (by simp [results, Tryd.results23, go_sem]) rfl ?_
    exact ⟨rfl, Below.alloc (Below.refl _ _) (Nat.le_refl _) _⟩
  · go_enter Tryd.func23, Tryd.ntmps23
    go_wp2_with (first | (go_at_call 31; refine (in31 _ _ _ _).mono ?_; rintro e w1 ⟨rfl, rfl⟩))
    refine bodyPost_ret (v := .tuple #[.int .i64 0, .int .i64 10]) (by simp [results, Tryd.results23, go_sem]) rfl ?_
    exact ⟨rfl, Below.alloc (Below.refl _ _) (Nat.le_refl _) _⟩
theorem n23_5_1 (ok : Bool) (w : World) (hR : Rules w) : Calls Tryd.prog 23 #[.int .i64 1, .int .i64 5, .bool ok] w fun e w' => e = .returned (.tuple #[.int .i64 (nx 1 5 ok).1, .int .i64 (nx 1 5 ok).2]) ∧ Below w.heap.size w w' := by
  have c0 : w.cell? ⟨0, 24, none⟩ = some (.bool true) := hR 24 _ rfl
  have c1 : w.cell? ⟨0, 25, none⟩ = some (.bool true) := hR 25 _ rfl
  have c2 : w.cell? ⟨0, 26, none⟩ = some (.bool true) := hR 26 _ rfl
  have c3 : w.cell? ⟨0, 27, none⟩ = some (.bool false) := hR 27 _ rfl
  have c4 : w.cell? ⟨0, 28, none⟩ = some (.int .i64 4) := hR 28 _ rfl
  have c5 : w.cell? ⟨0, 29, none⟩ = some (.int .i64 4) := hR 29 _ rfl
  clear hR
  cases ok
  · go_enter Tryd.func23, Tryd.ntmps23
    go_wp2_with (first | (go_at_call 31; refine (in31 _ _ _ _).mono ?_; rintro e w1 ⟨rfl, rfl⟩))
    refine bodyPost_ret (v := .tuple #[.int .i64 4, .int .i64 0]) (by simp [results, Tryd.results23, go_sem]) rfl ?_
    exact ⟨rfl, Below.alloc (Below.refl _ _) (Nat.le_refl _) _⟩
  · go_enter Tryd.func23, Tryd.ntmps23
    go_wp2_with (first | (go_at_call 31; refine (in31 _ _ _ _).mono ?_; rintro e w1 ⟨rfl, rfl⟩))
    refine bodyPost_ret (v := .tuple #[.int .i64 4, .int .i64 0]) (by simp [results, Tryd.results23, go_sem]) rfl ?_
    exact ⟨rfl, Below.alloc (Below.refl _ _) (Nat.le_refl _) _⟩
theorem n23_5_2 (ok : Bool) (w : World) (hR : Rules w) : Calls Tryd.prog 23 #[.int .i64 2, .int .i64 5, .bool ok] w fun e w' => e = .returned (.tuple #[.int .i64 (nx 2 5 ok).1, .int .i64 (nx 2 5 ok).2]) ∧ Below w.heap.size w w' := by
  have c0 : w.cell? ⟨0, 24, none⟩ = some (.bool true) := hR 24 _ rfl
  have c1 : w.cell? ⟨0, 25, none⟩ = some (.bool true) := hR 25 _ rfl
  have c2 : w.cell? ⟨0, 26, none⟩ = some (.bool true) := hR 26 _ rfl
  have c3 : w.cell? ⟨0, 27, none⟩ = some (.bool false) := hR 27 _ rfl
  have c4 : w.cell? ⟨0, 28, none⟩ = some (.int .i64 4) := hR 28 _ rfl
  have c5 : w.cell? ⟨0, 29, none⟩ = some (.int .i64 4) := hR 29 _ rfl
  clear hR
  cases ok
  · go_enter Tryd.func23, Tryd.ntmps23
    go_wp2_with (first | (go_at_call 31; refine (in31 _ _ _ _).mono ?_; rintro e w1 ⟨rfl, rfl⟩))
    refine bodyPost_ret (v := .tuple #[.int .i64 4, .int .i64 0]) (by simp [results, Tryd.results23, go_sem]) rfl ?_
    exact ⟨rfl, Below.alloc (Below.refl _ _) (Nat.le_refl _) _⟩
  · go_enter Tryd.func23, Tryd.ntmps23
    go_wp2_with (first | (go_at_call 31; refine (in31 _ _ _ _).mono ?_; rintro e w1 ⟨rfl, rfl⟩))
    refine bodyPost_ret (v := .tuple #[.int .i64 4, .int .i64 0]) (by simp [results, Tryd.results23, go_sem]) rfl ?_
    exact ⟨rfl, Below.alloc (Below.refl _ _) (Nat.le_refl _) _⟩
theorem n23_5_3 (ok : Bool) (w : World) (hR : Rules w) : Calls Tryd.prog 23 #[.int .i64 3, .int .i64 5, .bool ok] w fun e w' => e = .returned (.tuple #[.int .i64 (nx 3 5 ok).1, .int .i64 (nx 3 5 ok).2]) ∧ Below w.heap.size w w' := by
  have c0 : w.cell? ⟨0, 24, none⟩ = some (.bool true) := hR 24 _ rfl
  have c1 : w.cell? ⟨0, 25, none⟩ = some (.bool true) := hR 25 _ rfl
  have c2 : w.cell? ⟨0, 26, none⟩ = some (.bool true) := hR 26 _ rfl
  have c3 : w.cell? ⟨0, 27, none⟩ = some (.bool false) := hR 27 _ rfl
  have c4 : w.cell? ⟨0, 28, none⟩ = some (.int .i64 4) := hR 28 _ rfl
  have c5 : w.cell? ⟨0, 29, none⟩ = some (.int .i64 4) := hR 29 _ rfl
  clear hR
  cases ok
  · go_enter Tryd.func23, Tryd.ntmps23
    go_wp2_with (first | (go_at_call 31; refine (in31 _ _ _ _).mono ?_; rintro e w1 ⟨rfl, rfl⟩))
    refine bodyPost_ret (v := .tuple #[.int .i64 4, .int .i64 0]) (by simp [results, Tryd.results23, go_sem]) rfl ?_
    exact ⟨rfl, Below.alloc (Below.refl _ _) (Nat.le_refl _) _⟩
  · go_enter Tryd.func23, Tryd.ntmps23
    go_wp2_with (first | (go_at_call 31; refine (in31 _ _ _ _).mono ?_; rintro e w1 ⟨rfl, rfl⟩))
    refine bodyPost_ret (v := .tuple #[.int .i64 4, .int .i64 0]) (by simp [results, Tryd.results23, go_sem]) rfl ?_
    exact ⟨rfl, Below.alloc (Below.refl _ _) (Nat.le_refl _) _⟩
theorem n23_5_4 (ok : Bool) (w : World) (hR : Rules w) : Calls Tryd.prog 23 #[.int .i64 4, .int .i64 5, .bool ok] w fun e w' => e = .returned (.tuple #[.int .i64 (nx 4 5 ok).1, .int .i64 (nx 4 5 ok).2]) ∧ Below w.heap.size w w' := by
  have c0 : w.cell? ⟨0, 24, none⟩ = some (.bool true) := hR 24 _ rfl
  have c1 : w.cell? ⟨0, 25, none⟩ = some (.bool true) := hR 25 _ rfl
  have c2 : w.cell? ⟨0, 26, none⟩ = some (.bool true) := hR 26 _ rfl
  have c3 : w.cell? ⟨0, 27, none⟩ = some (.bool false) := hR 27 _ rfl
  have c4 : w.cell? ⟨0, 28, none⟩ = some (.int .i64 4) := hR 28 _ rfl
  have c5 : w.cell? ⟨0, 29, none⟩ = some (.int .i64 4) := hR 29 _ rfl
  clear hR
  cases ok
  · go_enter Tryd.func23, Tryd.ntmps23
    go_wp2_with (first | (go_at_call 31; refine (in31 _ _ _ _).mono ?_; rintro e w1 ⟨rfl, rfl⟩))
    refine bodyPost_ret (v := .tuple #[.int .i64 0, .int .i64 10]) (by simp [results, Tryd.results23, go_sem]) rfl ?_
    exact ⟨rfl, Below.alloc (Below.refl _ _) (Nat.le_refl _) _⟩
  · go_enter Tryd.func23, Tryd.ntmps23
    go_wp2_with (first | (go_at_call 31; refine (in31 _ _ _ _).mono ?_; rintro e w1 ⟨rfl, rfl⟩))
    refine bodyPost_ret (v := .tuple #[.int .i64 0, .int .i64 10]) (by simp [results, Tryd.results23, go_sem]) rfl ?_
    exact ⟨rfl, Below.alloc (Below.refl _ _) (Nat.le_refl _) _⟩
set_option maxHeartbeats 4000000 in
theorem next_any (s t : Int) (ok : Bool) (w : World) (hR : Rules w) : Calls Tryd.prog 23 #[.int .i64 s, .int .i64 t, .bool ok] w fun e w' => e = .returned (.tuple #[.int .i64 (nx s t ok).1, .int .i64 (nx s t ok).2]) ∧ Below w.heap.size w w' := by
  by_cases h1 : s < 1 ∨ 4 < s
  · rw [nx_out (by omega)]
    clear hR
    go_enter Tryd.func23, Tryd.ntmps23
    have hc : (decide (1 ≤ s) && decide (s ≤ 4)) = false := by simp; omega
    go_wp2_with (first | (go_at_call 31; refine (in31 _ _ _ _).mono ?_; rintro e w1 ⟨rfl, rfl⟩; rw [hc]))
    refine bodyPost_ret (v := .tuple #[.int .i64 0, .int .i64 4]) (by simp [results, Tryd.results23, go_sem]) rfl ?_
    exact ⟨rfl, Below.refl _ _⟩
  · by_cases h2 : t < 1 ∨ 5 < t
    · rw [nx_out (by omega)]
      clear hR
      go_enter Tryd.func23, Tryd.ntmps23
      have hc : (decide (1 ≤ s) && decide (s ≤ 4)) = true := by simp; omega
      have hd : (decide (1 ≤ t) && decide (t ≤ 5)) = false := by simp; omega
      go_wp2_with (first | (go_at_call 31; refine (in31 _ _ _ _).mono ?_; rintro e w1 ⟨rfl, rfl⟩; first | rw [hd] | rw [hc]))
      refine bodyPost_ret (v := .tuple #[.int .i64 0, .int .i64 4]) (by simp [results, Tryd.results23, go_sem]) rfl ?_
      exact ⟨rfl, Below.refl _ _⟩
    · rcases four (s := s) (by omega) (by omega) with rfl | rfl | rfl | rfl <;> rcases five (s := t) (by omega) (by omega) with rfl | rfl | rfl | rfl | rfl
      · exact n23_1_1 ok w hR
      · exact n23_2_1 ok w hR
      · exact n23_3_1 ok w hR
      · exact n23_4_1 ok w hR
      · exact n23_5_1 ok w hR
      · exact n23_1_2 ok w hR
      · exact n23_2_2 ok w hR
      · exact n23_3_2 ok w hR
      · exact n23_4_2 ok w hR
      · exact n23_5_2 ok w hR
      · exact n23_1_3 ok w hR
      · exact n23_2_3 ok w hR
      · exact n23_3_3 ok w hR
      · exact n23_4_3 ok w hR
      · exact n23_5_3 ok w hR
      · exact n23_1_4 ok w hR
      · exact n23_2_4 ok w hR
      · exact n23_3_4 ok w hR
      · exact n23_4_4 ok w hR
      · exact n23_5_4 ok w hR
set_option maxHeartbeats 4000000 in
theorem rnext_any (s t : Int) (ok : Bool) (w : World) : Calls Tryd.prog 24 #[.int .i64 s, .int .i64 t, .bool ok] w fun e w' => e = .returned (.tuple #[.int .i64 (nx s t ok).1, .int .i64 (nx s t ok).2]) ∧ w = w' := by
  by_cases h1 : s < 1 ∨ 4 < s
  · rw [nx_out (by omega)]
    go_enter Tryd.func24, Tryd.ntmps24
    have hc : (decide (1 ≤ s) && decide (s ≤ 4)) = false := by simp; omega
    go_wp2_with (first | (go_at_call 32; refine (st32 _ _).mono ?_; rintro e w1 ⟨rfl, rfl⟩; rw [hc]))
    refine bodyPost_ret (v := .tuple #[.int .i64 0, .int .i64 4]) (by simp [results, Tryd.results24, go_sem]) rfl ?_
    exact ⟨rfl, rfl⟩
  · by_cases h2 : t < 1 ∨ 5 < t
    · rw [nx_out (by omega)]
      have hc : (decide (1 ≤ s) && decide (s ≤ 4)) = true := by simp; omega
      by_cases h3 : t < 1
      · go_enter Tryd.func24, Tryd.ntmps24
        go_wp2_with (first | (go_at_call 32; refine (st32 _ _).mono ?_; rintro e w1 ⟨rfl, rfl⟩; rw [hc]))
        refine bodyPost_ret (v := .tuple #[.int .i64 0, .int .i64 4]) (by simp [results, Tryd.results24, go_sem]) rfl ?_
        exact ⟨rfl, rfl⟩
      · have h4 : 5 < t := by omega
        go_enter Tryd.func24, Tryd.ntmps24
        go_wp2_with (first | (go_at_call 32; refine (st32 _ _).mono ?_; rintro e w1 ⟨rfl, rfl⟩; rw [hc]))
        refine bodyPost_ret (v := .tuple #[.int .i64 0, .int .i64 4]) (by simp [results, Tryd.results24, go_sem]) rfl ?_
        exact ⟨rfl, rfl⟩
    · have hc : (decide (1 ≤ s) && decide (s ≤ 4)) = true := by simp; omega
      rcases four (s := s) (by omega) (by omega) with rfl | rfl | rfl | rfl <;> rcases five (s := t) (by omega) (by omega) with rfl | rfl | rfl | rfl | rfl <;> cases ok
      · go_enter Tryd.func24, Tryd.ntmps24
        go_wp2_with (first | (go_at_call 32; refine (st32 _ _).mono ?_; rintro e w1 ⟨rfl, rfl⟩))
        refine bodyPost_ret (v := .tuple #[.int .i64 1, .int .i64 0]) (by simp [results, Tryd.results24, go_sem]) rfl ?_
        exact ⟨rfl, rfl⟩
      · go_enter Tryd.func24, Tryd.ntmps24
        go_wp2_with (first | (go_at_call 32; refine (st32 _ _).mono ?_; rintro e w1 ⟨rfl, rfl⟩))
        refine bodyPost_ret (v := .tuple #[.int .i64 2, .int .i64 0]) (by simp [results, Tryd.results24, go_sem]) rfl ?_
        exact ⟨rfl, rfl⟩
      · go_enter Tryd.func24, Tryd.ntmps24
        go_wp2_with (first | (go_at_call 32; refine (st32 _ _).mono ?_; rintro e w1 ⟨rfl, rfl⟩))
        refine bodyPost_ret (v := .tuple #[.int .i64 0, .int .i64 10]) (by simp [results, Tryd.results24, go_sem]) rfl ?_
        exact ⟨rfl, rfl⟩
      · go_enter Tryd.func24, Tryd.ntmps24
        go_wp2_with (first | (go_at_call 32; refine (st32 _ _).mono ?_; rintro e w1 ⟨rfl, rfl⟩))
        refine bodyPost_ret (v := .tuple #[.int .i64 0, .int .i64 10]) (by simp [results, Tryd.results24, go_sem]) rfl ?_
        exact ⟨rfl, rfl⟩
      · go_enter Tryd.func24, Tryd.ntmps24
        go_wp2_with (first | (go_at_call 32; refine (st32 _ _).mono ?_; rintro e w1 ⟨rfl, rfl⟩))
        refine bodyPost_ret (v := .tuple #[.int .i64 0, .int .i64 10]) (by simp [results, Tryd.results24, go_sem]) rfl ?_
        exact ⟨rfl, rfl⟩
      · go_enter Tryd.func24, Tryd.ntmps24
        go_wp2_with (first | (go_at_call 32; refine (st32 _ _).mono ?_; rintro e w1 ⟨rfl, rfl⟩))
        refine bodyPost_ret (v := .tuple #[.int .i64 0, .int .i64 10]) (by simp [results, Tryd.results24, go_sem]) rfl ?_
        exact ⟨rfl, rfl⟩
      · go_enter Tryd.func24, Tryd.ntmps24
        go_wp2_with (first | (go_at_call 32; refine (st32 _ _).mono ?_; rintro e w1 ⟨rfl, rfl⟩))
        refine bodyPost_ret (v := .tuple #[.int .i64 0, .int .i64 10]) (by simp [results, Tryd.results24, go_sem]) rfl ?_
        exact ⟨rfl, rfl⟩
      · go_enter Tryd.func24, Tryd.ntmps24
        go_wp2_with (first | (go_at_call 32; refine (st32 _ _).mono ?_; rintro e w1 ⟨rfl, rfl⟩))
        refine bodyPost_ret (v := .tuple #[.int .i64 0, .int .i64 10]) (by simp [results, Tryd.results24, go_sem]) rfl ?_
        exact ⟨rfl, rfl⟩
      · go_enter Tryd.func24, Tryd.ntmps24
        go_wp2_with (first | (go_at_call 32; refine (st32 _ _).mono ?_; rintro e w1 ⟨rfl, rfl⟩))
        refine bodyPost_ret (v := .tuple #[.int .i64 4, .int .i64 0]) (by simp [results, Tryd.results24, go_sem]) rfl ?_
        exact ⟨rfl, rfl⟩
      · go_enter Tryd.func24, Tryd.ntmps24
        go_wp2_with (first | (go_at_call 32; refine (st32 _ _).mono ?_; rintro e w1 ⟨rfl, rfl⟩))
        refine bodyPost_ret (v := .tuple #[.int .i64 4, .int .i64 0]) (by simp [results, Tryd.results24, go_sem]) rfl ?_
        exact ⟨rfl, rfl⟩
      · go_enter Tryd.func24, Tryd.ntmps24
        go_wp2_with (first | (go_at_call 32; refine (st32 _ _).mono ?_; rintro e w1 ⟨rfl, rfl⟩))
        refine bodyPost_ret (v := .tuple #[.int .i64 0, .int .i64 10]) (by simp [results, Tryd.results24, go_sem]) rfl ?_
        exact ⟨rfl, rfl⟩
      · go_enter Tryd.func24, Tryd.ntmps24
        go_wp2_with (first | (go_at_call 32; refine (st32 _ _).mono ?_; rintro e w1 ⟨rfl, rfl⟩))
        refine bodyPost_ret (v := .tuple #[.int .i64 0, .int .i64 10]) (by simp [results, Tryd.results24, go_sem]) rfl ?_
        exact ⟨rfl, rfl⟩
      · go_enter Tryd.func24, Tryd.ntmps24
        go_wp2_with (first | (go_at_call 32; refine (st32 _ _).mono ?_; rintro e w1 ⟨rfl, rfl⟩))
        refine bodyPost_ret (v := .tuple #[.int .i64 2, .int .i64 0]) (by simp [results, Tryd.results24, go_sem]) rfl ?_
        exact ⟨rfl, rfl⟩
      · go_enter Tryd.func24, Tryd.ntmps24
        go_wp2_with (first | (go_at_call 32; refine (st32 _ _).mono ?_; rintro e w1 ⟨rfl, rfl⟩))
        refine bodyPost_ret (v := .tuple #[.int .i64 3, .int .i64 0]) (by simp [results, Tryd.results24, go_sem]) rfl ?_
        exact ⟨rfl, rfl⟩
      · go_enter Tryd.func24, Tryd.ntmps24
        go_wp2_with (first | (go_at_call 32; refine (st32 _ _).mono ?_; rintro e w1 ⟨rfl, rfl⟩))
        refine bodyPost_ret (v := .tuple #[.int .i64 0, .int .i64 10]) (by simp [results, Tryd.results24, go_sem]) rfl ?_
        exact ⟨rfl, rfl⟩
      · go_enter Tryd.func24, Tryd.ntmps24
        go_wp2_with (first | (go_at_call 32; refine (st32 _ _).mono ?_; rintro e w1 ⟨rfl, rfl⟩))
        refine bodyPost_ret (v := .tuple #[.int .i64 0, .int .i64 10]) (by simp [results, Tryd.results24, go_sem]) rfl ?_
        exact ⟨rfl, rfl⟩
      · go_enter Tryd.func24, Tryd.ntmps24
        go_wp2_with (first | (go_at_call 32; refine (st32 _ _).mono ?_; rintro e w1 ⟨rfl, rfl⟩))
        refine bodyPost_ret (v := .tuple #[.int .i64 1, .int .i64 0]) (by simp [results, Tryd.results24, go_sem]) rfl ?_
        exact ⟨rfl, rfl⟩
      · go_enter Tryd.func24, Tryd.ntmps24
        go_wp2_with (first | (go_at_call 32; refine (st32 _ _).mono ?_; rintro e w1 ⟨rfl, rfl⟩))
        refine bodyPost_ret (v := .tuple #[.int .i64 1, .int .i64 0]) (by simp [results, Tryd.results24, go_sem]) rfl ?_
        exact ⟨rfl, rfl⟩
      · go_enter Tryd.func24, Tryd.ntmps24
        go_wp2_with (first | (go_at_call 32; refine (st32 _ _).mono ?_; rintro e w1 ⟨rfl, rfl⟩))
        refine bodyPost_ret (v := .tuple #[.int .i64 4, .int .i64 0]) (by simp [results, Tryd.results24, go_sem]) rfl ?_
        exact ⟨rfl, rfl⟩
      · go_enter Tryd.func24, Tryd.ntmps24
        go_wp2_with (first | (go_at_call 32; refine (st32 _ _).mono ?_; rintro e w1 ⟨rfl, rfl⟩))
        refine bodyPost_ret (v := .tuple #[.int .i64 4, .int .i64 0]) (by simp [results, Tryd.results24, go_sem]) rfl ?_
        exact ⟨rfl, rfl⟩
      · go_enter Tryd.func24, Tryd.ntmps24
        go_wp2_with (first | (go_at_call 32; refine (st32 _ _).mono ?_; rintro e w1 ⟨rfl, rfl⟩))
        refine bodyPost_ret (v := .tuple #[.int .i64 0, .int .i64 10]) (by simp [results, Tryd.results24, go_sem]) rfl ?_
        exact ⟨rfl, rfl⟩
      · go_enter Tryd.func24, Tryd.ntmps24
        go_wp2_with (first | (go_at_call 32; refine (st32 _ _).mono ?_; rintro e w1 ⟨rfl, rfl⟩))
        refine bodyPost_ret (v := .tuple #[.int .i64 0, .int .i64 10]) (by simp [results, Tryd.results24, go_sem]) rfl ?_
        exact ⟨rfl, rfl⟩
      · go_enter Tryd.func24, Tryd.ntmps24
        go_wp2_with (first | (go_at_call 32; refine (st32 _ _).mono ?_; rintro e w1 ⟨rfl, rfl⟩))
        refine bodyPost_ret (v := .tuple #[.int .i64 0, .int .i64 10]) (by simp [results, Tryd.results24, go_sem]) rfl ?_
        exact ⟨rfl, rfl⟩
      · go_enter Tryd.func24, Tryd.ntmps24
        go_wp2_with (first | (go_at_call 32; refine (st32 _ _).mono ?_; rintro e w1 ⟨rfl, rfl⟩))
        refine bodyPost_ret (v := .tuple #[.int .i64 0, .int .i64 10]) (by simp [results, Tryd.results24, go_sem]) rfl ?_
        exact ⟨rfl, rfl⟩
      · go_enter Tryd.func24, Tryd.ntmps24
        go_wp2_with (first | (go_at_call 32; refine (st32 _ _).mono ?_; rintro e w1 ⟨rfl, rfl⟩))
        refine bodyPost_ret (v := .tuple #[.int .i64 1, .int .i64 0]) (by simp [results, Tryd.results24, go_sem]) rfl ?_
        exact ⟨rfl, rfl⟩
      · go_enter Tryd.func24, Tryd.ntmps24
        go_wp2_with (first | (go_at_call 32; refine (st32 _ _).mono ?_; rintro e w1 ⟨rfl, rfl⟩))
        refine bodyPost_ret (v := .tuple #[.int .i64 2, .int .i64 0]) (by simp [results, Tryd.results24, go_sem]) rfl ?_
        exact ⟨rfl, rfl⟩
      · go_enter Tryd.func24, Tryd.ntmps24
        go_wp2_with (first | (go_at_call 32; refine (st32 _ _).mono ?_; rintro e w1 ⟨rfl, rfl⟩))
        refine bodyPost_ret (v := .tuple #[.int .i64 0, .int .i64 10]) (by simp [results, Tryd.results24, go_sem]) rfl ?_
        exact ⟨rfl, rfl⟩
      · go_enter Tryd.func24, Tryd.ntmps24
        go_wp2_with (first | (go_at_call 32; refine (st32 _ _).mono ?_; rintro e w1 ⟨rfl, rfl⟩))
        refine bodyPost_ret (v := .tuple #[.int .i64 0, .int .i64 10]) (by simp [results, Tryd.results24, go_sem]) rfl ?_
        exact ⟨rfl, rfl⟩
      · go_enter Tryd.func24, Tryd.ntmps24
        go_wp2_with (first | (go_at_call 32; refine (st32 _ _).mono ?_; rintro e w1 ⟨rfl, rfl⟩))
        refine bodyPost_ret (v := .tuple #[.int .i64 4, .int .i64 0]) (by simp [results, Tryd.results24, go_sem]) rfl ?_
        exact ⟨rfl, rfl⟩
      · go_enter Tryd.func24, Tryd.ntmps24
        go_wp2_with (first | (go_at_call 32; refine (st32 _ _).mono ?_; rintro e w1 ⟨rfl, rfl⟩))
        refine bodyPost_ret (v := .tuple #[.int .i64 4, .int .i64 0]) (by simp [results, Tryd.results24, go_sem]) rfl ?_
        exact ⟨rfl, rfl⟩
      · go_enter Tryd.func24, Tryd.ntmps24
        go_wp2_with (first | (go_at_call 32; refine (st32 _ _).mono ?_; rintro e w1 ⟨rfl, rfl⟩))
        refine bodyPost_ret (v := .tuple #[.int .i64 0, .int .i64 10]) (by simp [results, Tryd.results24, go_sem]) rfl ?_
        exact ⟨rfl, rfl⟩
      · go_enter Tryd.func24, Tryd.ntmps24
        go_wp2_with (first | (go_at_call 32; refine (st32 _ _).mono ?_; rintro e w1 ⟨rfl, rfl⟩))
        refine bodyPost_ret (v := .tuple #[.int .i64 0, .int .i64 10]) (by simp [results, Tryd.results24, go_sem]) rfl ?_
        exact ⟨rfl, rfl⟩
      · go_enter Tryd.func24, Tryd.ntmps24
        go_wp2_with (first | (go_at_call 32; refine (st32 _ _).mono ?_; rintro e w1 ⟨rfl, rfl⟩))
        refine bodyPost_ret (v := .tuple #[.int .i64 0, .int .i64 10]) (by simp [results, Tryd.results24, go_sem]) rfl ?_
        exact ⟨rfl, rfl⟩
      · go_enter Tryd.func24, Tryd.ntmps24
        go_wp2_with (first | (go_at_call 32; refine (st32 _ _).mono ?_; rintro e w1 ⟨rfl, rfl⟩))
        refine bodyPost_ret (v := .tuple #[.int .i64 0, .int .i64 10]) (by simp [results, Tryd.results24, go_sem]) rfl ?_
        exact ⟨rfl, rfl⟩
      · go_enter Tryd.func24, Tryd.ntmps24
        go_wp2_with (first | (go_at_call 32; refine (st32 _ _).mono ?_; rintro e w1 ⟨rfl, rfl⟩))
        refine bodyPost_ret (v := .tuple #[.int .i64 0, .int .i64 10]) (by simp [results, Tryd.results24, go_sem]) rfl ?_
        exact ⟨rfl, rfl⟩
      · go_enter Tryd.func24, Tryd.ntmps24
        go_wp2_with (first | (go_at_call 32; refine (st32 _ _).mono ?_; rintro e w1 ⟨rfl, rfl⟩))
        refine bodyPost_ret (v := .tuple #[.int .i64 0, .int .i64 10]) (by simp [results, Tryd.results24, go_sem]) rfl ?_
        exact ⟨rfl, rfl⟩
      · go_enter Tryd.func24, Tryd.ntmps24
        go_wp2_with (first | (go_at_call 32; refine (st32 _ _).mono ?_; rintro e w1 ⟨rfl, rfl⟩))
        refine bodyPost_ret (v := .tuple #[.int .i64 0, .int .i64 10]) (by simp [results, Tryd.results24, go_sem]) rfl ?_
        exact ⟨rfl, rfl⟩
      · go_enter Tryd.func24, Tryd.ntmps24
        go_wp2_with (first | (go_at_call 32; refine (st32 _ _).mono ?_; rintro e w1 ⟨rfl, rfl⟩))
        refine bodyPost_ret (v := .tuple #[.int .i64 0, .int .i64 10]) (by simp [results, Tryd.results24, go_sem]) rfl ?_
        exact ⟨rfl, rfl⟩
      · go_enter Tryd.func24, Tryd.ntmps24
        go_wp2_with (first | (go_at_call 32; refine (st32 _ _).mono ?_; rintro e w1 ⟨rfl, rfl⟩))
        refine bodyPost_ret (v := .tuple #[.int .i64 0, .int .i64 10]) (by simp [results, Tryd.results24, go_sem]) rfl ?_
        exact ⟨rfl, rfl⟩
      · go_enter Tryd.func24, Tryd.ntmps24
        go_wp2_with (first | (go_at_call 32; refine (st32 _ _).mono ?_; rintro e w1 ⟨rfl, rfl⟩))
        refine bodyPost_ret (v := .tuple #[.int .i64 0, .int .i64 10]) (by simp [results, Tryd.results24, go_sem]) rfl ?_
        exact ⟨rfl, rfl⟩
/-- a name -/
def sname (n : Int) : ByteArray := if n = 1 then ({ data := #[117, 110, 99, 111, 110, 102, 105, 103, 117, 114, 101, 100] }) else if n = 2 then ({ data := #[105, 110, 97, 99, 116, 105, 118, 101] }) else if n = 3 then ({ data := #[97, 99, 116, 105, 118, 101] }) else if n = 4 then ({ data := #[102, 105, 110, 97, 108, 105, 122, 101, 100] }) else ({ data := #[] })
theorem name27 (n : Int) (w : World) : Calls Tryd.prog 27 #[.int .i64 n] w fun e w' => e = .returned (.string (sname n)) ∧ w = w' := by
  by_cases h1 : n = 1
  · subst h1; go_enter Tryd.func27, Tryd.ntmps27; go_wp2_with fail; go_ret; exact ⟨rfl, rfl⟩
  by_cases h2 : n = 2
  · subst h2; go_enter Tryd.func27, Tryd.ntmps27; go_wp2_with fail; go_ret; exact ⟨rfl, rfl⟩
  by_cases h3 : n = 3
  · subst h3; go_enter Tryd.func27, Tryd.ntmps27; go_wp2_with fail; go_ret; exact ⟨rfl, rfl⟩
  by_cases h4 : n = 4
  · subst h4; go_enter Tryd.func27, Tryd.ntmps27; go_wp2_with fail; go_ret; exact ⟨rfl, rfl⟩
  go_enter Tryd.func27, Tryd.ntmps27
  go_wp2_with fail
  go_ret
  exact ⟨by simp [sname, *], rfl⟩
theorem name28 (n : Int) (w : World) : Calls Tryd.prog 28 #[.int .i64 n] w fun e w' => e = .returned (.string (sname n)) ∧ w = w' := by
  by_cases h1 : n = 1
  · subst h1; go_enter Tryd.func28, Tryd.ntmps28; go_wp2_with fail; go_ret; exact ⟨rfl, rfl⟩
  by_cases h2 : n = 2
  · subst h2; go_enter Tryd.func28, Tryd.ntmps28; go_wp2_with fail; go_ret; exact ⟨rfl, rfl⟩
  by_cases h3 : n = 3
  · subst h3; go_enter Tryd.func28, Tryd.ntmps28; go_wp2_with fail; go_ret; exact ⟨rfl, rfl⟩
  by_cases h4 : n = 4
  · subst h4; go_enter Tryd.func28, Tryd.ntmps28; go_wp2_with fail; go_ret; exact ⟨rfl, rfl⟩
  go_enter Tryd.func28, Tryd.ntmps28
  go_wp2_with fail
  go_ret
  exact ⟨by simp [sname, *], rfl⟩
/-- a name -/
def tname (n : Int) : ByteArray := if n = 1 then ({ data := #[99, 111, 110, 102, 105, 103, 117, 114, 101] }) else if n = 2 then ({ data := #[97, 99, 116, 105, 118, 97, 116, 101] }) else if n = 3 then ({ data := #[100, 101, 97, 99, 116, 105, 118, 97, 116, 101] }) else if n = 4 then ({ data := #[99, 108, 101, 97, 110, 117, 112] }) else if n = 5 then ({ data := #[115, 104, 117, 116, 100, 111, 119, 110] }) else ({ data := #[] })
theorem name29 (n : Int) (w : World) : Calls Tryd.prog 29 #[.int .i64 n] w fun e w' => e = .returned (.string (tname n)) ∧ w = w' := by
  by_cases h1 : n = 1
  · subst h1; go_enter Tryd.func29, Tryd.ntmps29; go_wp2_with fail; go_ret; exact ⟨rfl, rfl⟩
  by_cases h2 : n = 2
  · subst h2; go_enter Tryd.func29, Tryd.ntmps29; go_wp2_with fail; go_ret; exact ⟨rfl, rfl⟩
  by_cases h3 : n = 3
  · subst h3; go_enter Tryd.func29, Tryd.ntmps29; go_wp2_with fail; go_ret; exact ⟨rfl, rfl⟩
  by_cases h4 : n = 4
  · subst h4; go_enter Tryd.func29, Tryd.ntmps29; go_wp2_with fail; go_ret; exact ⟨rfl, rfl⟩
  by_cases h5 : n = 5
  · subst h5; go_enter Tryd.func29, Tryd.ntmps29; go_wp2_with fail; go_ret; exact ⟨rfl, rfl⟩
  go_enter Tryd.func29, Tryd.ntmps29
  go_wp2_with fail
  go_ret
  exact ⟨by simp [tname, *], rfl⟩
theorem name30 (n : Int) (w : World) : Calls Tryd.prog 30 #[.int .i64 n] w fun e w' => e = .returned (.string (tname n)) ∧ w = w' := by
  by_cases h1 : n = 1
  · subst h1; go_enter Tryd.func30, Tryd.ntmps30; go_wp2_with fail; go_ret; exact ⟨rfl, rfl⟩
  by_cases h2 : n = 2
  · subst h2; go_enter Tryd.func30, Tryd.ntmps30; go_wp2_with fail; go_ret; exact ⟨rfl, rfl⟩
  by_cases h3 : n = 3
  · subst h3; go_enter Tryd.func30, Tryd.ntmps30; go_wp2_with fail; go_ret; exact ⟨rfl, rfl⟩
  by_cases h4 : n = 4
  · subst h4; go_enter Tryd.func30, Tryd.ntmps30; go_wp2_with fail; go_ret; exact ⟨rfl, rfl⟩
  by_cases h5 : n = 5
  · subst h5; go_enter Tryd.func30, Tryd.ntmps30; go_wp2_with fail; go_ret; exact ⟨rfl, rfl⟩
  go_enter Tryd.func30, Tryd.ntmps30
  go_wp2_with fail
  go_ret
  exact ⟨by simp [tname, *], rfl⟩
end Go.Proofs.YthklehpekglohaaDoor
