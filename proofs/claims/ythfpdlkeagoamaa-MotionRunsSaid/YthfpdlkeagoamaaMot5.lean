/- Motion, in plain Lean: the motions after each tick. No program in sight. -/
import Derived.Test.YthfpdlkeagoamaaMot4
namespace Go.Proofs.Ythfpdlkeagoamaa
def st1 (S A wx wy : Int) (m : Mo) : Mo := ⟨clp (m.px + stpX m.vx m.vy wx wy S A), clp (m.py + stpY m.vx m.vy wx wy S A), stpX m.vx m.vy wx wy S A, stpY m.vx m.vy wx wy S A⟩
def rit (S A : Int) (X Y : Nat → Int) : Nat → Mo → Mo
  | 0, m => m
  | k + 1, m => st1 S A (X k) (Y k) (rit S A X Y k m)
def runL (S A : Int) (X Y : Nat → Int) (k : Nat) (m : Mo) : List Mo := (List.range k).map fun i => rit S A X Y (i + 1) m
theorem runL_len (S A : Int) (X Y : Nat → Int) (k : Nat) (m : Mo) : (runL S A X Y k m).length = k := by simp [runL]
theorem runL_succ (S A : Int) (X Y : Nat → Int) (k : Nat) (m : Mo) : runL S A X Y (k + 1) m = runL S A X Y k m ++ [rit S A X Y (k + 1) m] := by simp [runL, List.range_succ]
theorem runL_get (S A : Int) (X Y : Nat → Int) (n : Nat) (m : Mo) (i : Nat) (h : i < n) : (runL S A X Y n m)[i]? = some (rit S A X Y (i + 1) m) := by simp [runL, h]
theorem st1_ok {m : Mo} {S A B H M : Int} (h : m.ok S A B H M) (wx wy : Int) : (st1 S A wx wy m).ok S A B H M := by
  obtain ⟨k1, p1, p2, p3, p4, hv⟩ := vld_true h
  obtain ⟨s1, s2, a1, a2, _⟩ := chk_true k1
  obtain ⟨v1, v2, v3, v4⟩ := vld_abs h
  have r1 := clp_range (m.px + stpX m.vx m.vy wx wy S A)
  have r2 := clp_range (m.py + stpY m.vx m.vy wx wy S A)
  exact vld_of k1 r1.1 r1.2 r2.1 r2.2 (stp_speed (by omega) (by omega) v1 v2 v3 v4 hv)
theorem rit_ok {m : Mo} {S A B H M : Int} (h : m.ok S A B H M) (X Y : Nat → Int) : ∀ k, (rit S A X Y k m).ok S A B H M
  | 0 => h
  | k + 1 => st1_ok (rit_ok h X Y k) _ _
end Go.Proofs.Ythfpdlkeagoamaa
