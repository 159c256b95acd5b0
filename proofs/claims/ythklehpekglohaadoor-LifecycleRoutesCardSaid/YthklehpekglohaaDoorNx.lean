/- The transitions, plainly. -/
namespace Go.Proofs.YthklehpekglohaaDoor
/-- what a transition answers: the state and the error -/
def nx (s t : Int) (ok : Bool) : Int × Int :=
  if s < 1 ∨ 4 < s ∨ t < 1 ∨ 5 < t then (0, 4)
  else if t = 5 ∧ s ≠ 4 then (4, 0)
  else if t = 1 ∧ s = 1 then (if ok then 2 else 1, 0)
  else if t = 2 ∧ s = 2 then (if ok then 3 else 2, 0)
  else if t = 3 ∧ s = 3 then (if ok then 2 else 1, 0)
  else if t = 4 ∧ s = 2 then (1, 0)
  else (0, 10)
theorem nx_out {s t : Int} {ok : Bool} (h : s < 1 ∨ 4 < s ∨ t < 1 ∨ 5 < t) : nx s t ok = (0, 4) := by
  unfold nx
  rw [if_pos h]
/-- the transitions that a state allows -/
def alw (s : Int) : List Int :=
  if s = 1 then [1, 5] else if s = 2 then [2, 4, 5] else if s = 3 then [3, 5] else []
theorem four {s : Int} (h1 : 1 ≤ s) (h2 : s ≤ 4) : s = 1 ∨ s = 2 ∨ s = 3 ∨ s = 4 := by omega
theorem five {s : Int} (h1 : 1 ≤ s) (h2 : s ≤ 5) : s = 1 ∨ s = 2 ∨ s = 3 ∨ s = 4 ∨ s = 5 := by omega
end Go.Proofs.YthklehpekglohaaDoor
