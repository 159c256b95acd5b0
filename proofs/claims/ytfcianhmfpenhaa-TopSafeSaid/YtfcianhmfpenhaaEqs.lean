import Derived.Test.YtfcianhmfpenhaaRows
import Derived.Test.YtfcianhmfpenhaaBase
namespace Go.Proofs.Ytfcianhmfpenhaa
open Go.RowKit
theorem eql_pt (a b c d : Int) (w : World) : (binOp .eql 35 (.agg #[.int .i64 a, .int .i64 b]) (.agg #[.int .i64 c, .int .i64 d])).run Try.prog w = .ok (.bool (decide (a = c) && decide (b = d))) w := by
  by_cases h : a = c
  · subst h
    by_cases h2 : b = d
    · subst h2
      simp [go_sem]
    · simp [go_sem, h2]
  · by_cases h2 : b = d
    · subst h2
      simp [go_sem, h]
    · simp [go_sem, h, h2]
theorem neq_pt (a b c d : Int) (w : World) : (binOp .neq 35 (.agg #[.int .i64 a, .int .i64 b]) (.agg #[.int .i64 c, .int .i64 d])).run Try.prog w = .ok (.bool (!(decide (a = c) && decide (b = d)))) w := by
  by_cases h : a = c
  · subst h
    by_cases h2 : b = d
    · subst h2
      simp [go_sem]
    · simp [go_sem, h2]
  · by_cases h2 : b = d
    · subst h2
      simp [go_sem, h]
    · simp [go_sem, h, h2]
theorem eql_mo (a b a' b' c d c' d' : Int) (w : World) : (binOp .eql 37 (.agg #[.int .i64 a, .int .i64 b, .int .i64 a', .int .i64 b']) (.agg #[.int .i64 c, .int .i64 d, .int .i64 c', .int .i64 d'])).run Try.prog w = .ok (.bool (decide (a = c) && decide (b = d) && (decide (a' = c') && decide (b' = d')))) w := by
  by_cases h : a = c <;> by_cases h2 : b = d <;> by_cases h3 : a' = c' <;> by_cases h4 : b' = d' <;> simp [go_sem, h, h2, h3, h4]
theorem neq_mo (a b a' b' c d c' d' : Int) (w : World) : (binOp .neq 37 (.agg #[.int .i64 a, .int .i64 b, .int .i64 a', .int .i64 b']) (.agg #[.int .i64 c, .int .i64 d, .int .i64 c', .int .i64 d'])).run Try.prog w = .ok (.bool (!(decide (a = c) && decide (b = d) && (decide (a' = c') && decide (b' = d'))))) w := by
  by_cases h : a = c <;> by_cases h2 : b = d <;> by_cases h3 : a' = c' <;> by_cases h4 : b' = d' <;> simp [go_sem, h, h2, h3, h4]
end Go.Proofs.Ytfcianhmfpenhaa
