import Derived.Test.YtanaficinidffaaRows
import Derived.Test.YtanaficinidffaaPlain
import Derived.Test.YtanaficinidffaaBase
import Derived.WalkKit
namespace Go.Proofs.Ytanaficinidffaa
open Go.RowKit

theorem in_any (n lo hi : Int) (w : World) : Calls Try.prog 25 #[.int .i64 n, .int .i64 lo, .int .i64 hi] w fun e w' => e = .returned (.bool (inB n lo hi)) ∧ w = w' := by
  by_cases h1 : lo ≤ n
  · by_cases h2 : n ≤ hi
    · have e : inB n lo hi = true := inB_true h1 h2
      go_enter Try.func25, Try.ntmps25
      go_wp2
      go_ret
      simp [e]
    · have e : inB n lo hi = false := inB_false (by omega)
      go_enter Try.func25, Try.ntmps25
      go_wp2
      go_ret
      simp
  · have e : inB n lo hi = false := inB_false (by omega)
    go_enter Try.func25, Try.ntmps25
    go_wp2
    go_ret
    simp

end Go.Proofs.Ytanaficinidffaa
