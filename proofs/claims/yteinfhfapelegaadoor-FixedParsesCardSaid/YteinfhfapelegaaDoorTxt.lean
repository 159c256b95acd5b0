/- Texts, plainly: digits and their values. No program in sight. -/
namespace Go.Proofs.YteinfhfapelegaaDoor
set_option linter.unusedVariables false
set_option linter.unusedSimpArgs false
def isD (b : UInt8) : Bool := decide (48 ≤ b.toNat) && decide (b.toNat ≤ 57)
/-- how many digits a text begins with -/
def runN : List UInt8 → Nat
  | [] => 0
  | b :: r => if isD b then runN r + 1 else 0
/-- the value of digits, behind a value -/
def valF (v : Int) : List UInt8 → Int
  | [] => v
  | b :: r => valF (10 * v + ((b.toNat : Int) - 48)) r
theorem runN_le : ∀ l : List UInt8, runN l ≤ l.length
  | [] => Nat.le_refl _
  | b :: r => by
    unfold runN
    have := runN_le r
    split
    · simp only [List.length_cons]; omega
    · exact Nat.zero_le _
theorem runN_digit : ∀ (l : List UInt8) (i : Nat) (h : i < runN l), isD (l[i]'(Nat.lt_of_lt_of_le h (runN_le l))) = true
  | [], i, h => by simp [runN] at h
  | b :: r, i, h => by
    unfold runN at h
    split at h
    · rename_i hb
      cases i with
      | zero => exact hb
      | succ i => exact runN_digit r i (by omega)
    · omega
theorem runN_stop : ∀ (l : List UInt8) (h : runN l < l.length), isD (l[runN l]'h) = false
  | [], h => by simp at h
  | b :: r, h => by
    by_cases hb : isD b = true
    · have e : runN (b :: r) = runN r + 1 := by show (if isD b then _ else _) = _; rw [if_pos hb]
      have h' : runN r < r.length := by rw [e] at h; simpa using h
      have := runN_stop r h'
      simp only [e, List.getElem_cons_succ]
      exact this
    · have e : runN (b :: r) = 0 := by show (if isD b then _ else _) = _; rw [if_neg hb]
      simp only [e, List.getElem_cons_zero]
      simpa using hb
theorem valF_snoc : ∀ (l : List UInt8) (v : Int) (b : UInt8), valF v (l ++ [b]) = 10 * valF v l + ((b.toNat : Int) - 48)
  | [], v, b => rfl
  | c :: r, v, b => valF_snoc r _ b
theorem valF_take {l : List UInt8} {k : Nat} (h : k < l.length) (v : Int) : valF v (l.take (k + 1)) = 10 * valF v (l.take k) + ((l[k].toNat : Int) - 48) := by
  rw [List.take_add_one, List.getElem?_eq_getElem h]
  exact valF_snoc _ _ _
/-- digits have a small value -/
theorem valF_range : ∀ (l : List UInt8) (v c : Int), 0 ≤ v → v < c → (∀ b ∈ l, isD b = true) → 0 ≤ valF v l ∧ valF v l < c * 10 ^ l.length
  | [], v, c, h0, h1, _ => by simpa [valF] using ⟨h0, h1⟩
  | b :: r, v, c, h0, h1, h2 => by
    have hb := h2 b (by simp)
    unfold isD at hb
    simp at hb
    have := valF_range r (10 * v + ((b.toNat : Int) - 48)) (10 * c) (by omega) (by omega) (fun x hx => h2 x (by simp [hx]))
    rw [List.length_cons, Int.pow_succ]
    have e : 10 * c * 10 ^ r.length = c * (10 ^ r.length * 10) := by rw [Int.mul_comm 10 c, Int.mul_assoc, Int.mul_comm 10]
    rw [← e]
    exact this
end Go.Proofs.YteinfhfapelegaaDoor
