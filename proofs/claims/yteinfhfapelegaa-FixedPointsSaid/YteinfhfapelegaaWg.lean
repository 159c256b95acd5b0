import Derived.Test.YteinfhfapelegaaWf
namespace Go.Proofs.Yteinfhfapelegaa
open Go.RowKit
/-- a coordinate within the reach -/
theorem tmod_range (x : Int) : -1048576 ≤ x.tmod 1048577 ∧ x.tmod 1048577 ≤ 1048576 := by
  rcases Int.lt_or_le x 0 with h | h
  · have e : x.tmod 1048577 = -((-x).tmod 1048577) := by rw [Int.neg_tmod]; omega
    rw [e, Int.tmod_eq_emod_of_nonneg (by omega)]
    omega
  · rw [Int.tmod_eq_emod_of_nonneg h]
    omega
theorem point_any (x y : Int) (h1 : -2147483648 ≤ x) (h2 : x ≤ 2147483647) (h3 : -2147483648 ≤ y) (h4 : y ≤ 2147483647) (w : World) : Calls Try.prog 13 #[.int .i32 x, .int .i32 y] w fun e w' => e = .returned (pt (x.tmod 1048577) (y.tmod 1048577)) ∧ Below w.heap.size w w' := by
  rcases Int.lt_or_le x 0 with hx | hx
  · rcases Int.lt_or_le y 0 with hy | hy
    · go_enter Try.func13, Try.ntmps13
      go_wp2
      go_returns
      exact ⟨rfl, by go_grown⟩
    · have ey : y.tmod 1048577 = y % 1048577 := Int.tmod_eq_emod_of_nonneg hy
      rw [ey]
      clear ey
      go_enter Try.func13, Try.ntmps13
      go_wp2
      go_returns
      exact ⟨rfl, by go_grown⟩
  · have ex : x.tmod 1048577 = x % 1048577 := Int.tmod_eq_emod_of_nonneg hx
    rw [ex]
    clear ex
    rcases Int.lt_or_le y 0 with hy | hy
    · go_enter Try.func13, Try.ntmps13
      go_wp2
      go_returns
      exact ⟨rfl, by go_grown⟩
    · have ey : y.tmod 1048577 = y % 1048577 := Int.tmod_eq_emod_of_nonneg hy
      rw [ey]
      clear ey
      go_enter Try.func13, Try.ntmps13
      go_wp2
      go_returns
      exact ⟨rfl, by go_grown⟩
theorem far_any (x y : Int) (h1 : -2147483648 ≤ x) (h2 : x ≤ 2147483647) (h3 : -2147483648 ≤ y) (h4 : y ≤ 2147483647) (w : World) : Calls Try.prog 18 #[.int .i32 x, .int .i32 y] w fun e w' => e = .returned (pt (x * 512) (y * 512)) ∧ Below w.heap.size w w' := by
  go_enter Try.func18, Try.ntmps18
  go_wp2
  go_returns
  exact ⟨rfl, by go_grown⟩
end Go.Proofs.Yteinfhfapelegaa
