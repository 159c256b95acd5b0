/- Motion, in plain Lean: the motions until the robot stands still, one by one. No program in sight. -/
import Derived.Test.YthfpdlkeagoamaaMot3
namespace Go.Proofs.Ythfpdlkeagoamaa
def itm (B : Int) : Nat → Mo → Mo
  | 0, m => m
  | k + 1, m => brk1 B (itm B k m)
theorem itm_front (B : Int) : ∀ (k : Nat) (m : Mo), itm B (k + 1) m = itm B k (brk1 B m)
  | 0, _ => rfl
  | k + 1, m => by
    show brk1 B (itm B (k + 1) m) = brk1 B (itm B k (brk1 B m))
    rw [itm_front B k m]
theorem itm_ok {m : Mo} {S A B H M : Int} (h : m.ok S A B H M) : ∀ k, (itm B k m).ok S A B H M
  | 0 => h
  | k + 1 => brk1_ok (itm_ok h k)
def Mo.still (m : Mo) : Prop := m.vx = 0 ∧ m.vy = 0
theorem stopL_spec {S A B H M : Int} : ∀ (f : Nat) (m : Mo), m.ok S A B H M → m.len ≤ f →
    (∀ i, i < (stopL B f m).length → (stopL B f m)[i]? = some (itm B (i + 1) m) ∧ ¬ (itm B i m).still) ∧ (itm B (stopL B f m).length m).still ∧ ((stopL B f m).length : Int) ≤ m.len
  | 0, m, h, hl => by
    obtain ⟨k1, k2, k3, k4, k5, k6⟩ := ok_sqr h
    have hs : m.still := by
      by_cases hs : m.vx = 0 ∧ m.vy = 0
      · exact hs
      · have := len_pos hs k6
        exact absurd hl (by omega)
    refine ⟨fun i hi => absurd hi (by simp [stopL]), hs, ?_⟩
    have := (ok_len h).1
    simpa [stopL] using this
  | f + 1, m, h, hl => by
    by_cases hs : m.vx = 0 ∧ m.vy = 0
    · rw [stopL_end hs.1 hs.2]
      refine ⟨fun i hi => absurd hi (by simp), hs, ?_⟩
      have := (ok_len h).1
      simpa using this
    · have hlt := brk1_lt h hs
      rw [stopL_go hs]
      obtain ⟨a, b, c⟩ := stopL_spec f (brk1 B m) (brk1_ok h) (by push_cast at hl; omega)
      refine ⟨fun i hi => ?_, ?_, ?_⟩
      · cases i with
        | zero => exact ⟨rfl, hs⟩
        | succ i =>
          have := a i (by simpa using hi)
          rw [itm_front B (i + 1) m, itm_front B i m]
          exact ⟨by simpa using this.1, this.2⟩
      · rw [List.length_cons, itm_front]
        exact b
      · rw [List.length_cons]; push_cast; omega
theorem brk_len' {m : Mo} {S A B H M : Int} (h : m.ok S A B H M) : (brk1 B m).len ≤ max 0 (m.len - B) := by
  obtain ⟨k1, k2, k3, k4, k5, k6⟩ := ok_sqr h
  exact brk_len (by omega) k6
end Go.Proofs.Ythfpdlkeagoamaa
