/- The plain law: a number is parsed from its text with an error of at most 1. -/
import Derived.Test.YteinfhfapelegaaDoorXg
namespace Go.Proofs.YteinfhfapelegaaDoor
set_option linter.unusedVariables false
set_option linter.unusedSimpArgs false
def dg (l : List Int) : Prop := ∀ x ∈ l, 48 ≤ x ∧ x ≤ 57
theorem dg_cons {x : Int} {l : List Int} (h1 : 48 ≤ x) (h2 : x ≤ 57) (h : dg l) : dg (x :: l) := by
  intro y hy
  rcases List.mem_cons.1 hy with rfl | hy
  · exact ⟨h1, h2⟩
  · exact h y hy
theorem dg_nil : dg [] := fun x h => by simp at h
theorem dgs_dg (least : Nat) : ∀ (f : Nat) (n : Int) (acc : List Int), dg acc → dg (dgs least f n acc)
  | 0, n, acc, h => h
  | f + 1, n, acc, h => by
    unfold dgs
    split
    · exact dgs_dg least f _ _ (dg_cons (by omega) (by omega) h)
    · exact h
theorem byte_of {x : Int} (h1 : 48 ≤ x) (h2 : x ≤ 57) : ((UInt8.ofNat x.toNat).toNat : Int) = x := by
  rw [UInt8.toNat_ofNat']
  omega
theorem ub_isD {l : List Int} (h : dg l) : ∀ b ∈ ub l, isD b = true := by
  intro b hb
  obtain ⟨x, hx, rfl⟩ := List.mem_map.1 hb
  obtain ⟨h1, h2⟩ := h x hx
  have e := byte_of h1 h2
  unfold isD
  simp only [Bool.and_eq_true, decide_eq_true_eq]
  omega
theorem valF_dgs (least : Nat) : ∀ (f : Nat) (n : Int) (acc : List Int), 0 ≤ n → n < 10 ^ f → valF 0 (ub (dgs least f n acc)) = valF n (ub acc)
  | 0, n, acc, h0, h1 => by
    have : n = 0 := by simp at h1; omega
    subst this
    rfl
  | f + 1, n, acc, h0, h1 => by
    unfold dgs
    split
    · rw [valF_dgs least f (n / 10) _ (by omega) (by rw [Int.pow_succ] at h1; omega)]
      show valF (10 * (n / 10) + (((UInt8.ofNat (48 + n % 10).toNat).toNat : Int) - 48)) (ub acc) = _
      rw [byte_of (by omega) (by omega)]
      congr 1
      omega
    · obtain rfl : n = 0 := by omega
      rfl
theorem dgs_most (least L : Nat) (hL : least ≤ L) : ∀ (f : Nat) (n : Int) (acc : List Int) (d : Nat), 0 ≤ n → n < 10 ^ d → acc.length + d ≤ L → (dgs least f n acc).length ≤ L
  | 0, n, acc, d, h0, h1, h2 => by show acc.length ≤ L; omega
  | f + 1, n, acc, d, h0, h1, h2 => by
    unfold dgs
    split
    · rename_i hc
      by_cases hn : 0 < n
      · cases d with
        | zero => simp at h1; omega
        | succ d => exact dgs_most least L hL f (n / 10) _ d (by omega) (by rw [Int.pow_succ] at h1; omega) (by simp only [List.length_cons]; omega)
      · exact dgs_most least L hL f (n / 10) _ 0 (by omega) (by simp; omega) (by simp only [List.length_cons]; omega)
    · omega
theorem dgs_least (least : Nat) : ∀ (f : Nat) (n : Int) (acc : List Int), least ≤ acc.length + f → least ≤ (dgs least f n acc).length
  | 0, n, acc, h => h
  | f + 1, n, acc, h => by
    unfold dgs
    split
    · exact dgs_least least f _ _ (by simp only [List.length_cons]; omega)
    · omega
theorem dgs_head : ∀ (f : Nat) (n : Int) (acc : List Int), 0 ≤ n → n < 10 ^ f → (0 < n ∨ ∃ h t, acc = h :: t ∧ h ≠ 48) → ∃ h t, dgs 1 f n acc = h :: t ∧ h ≠ 48
  | 0, n, acc, h0, h1, h => by
    rcases h with h | h
    · simp at h1; omega
    · exact h
  | f + 1, n, acc, h0, h1, h => by
    by_cases hn : 0 < n
    · unfold dgs
      rw [if_pos (Or.inl hn)]
      refine dgs_head f (n / 10) _ (by omega) (by rw [Int.pow_succ] at h1; omega) ?_
      by_cases h10 : 0 < n / 10
      · exact Or.inl h10
      · exact Or.inr ⟨_, _, rfl, by omega⟩
    · rcases h with h | ⟨x, t, rfl, hx⟩
      · omega
      · unfold dgs
        rw [if_neg (by simp only [List.length_cons]; omega)]
        exact ⟨x, t, rfl, hx⟩
theorem runN_all : ∀ (l : List UInt8), (∀ b ∈ l, isD b = true) → runN l = l.length
  | [], h => rfl
  | b :: l, h => by
    show (if isD b then runN l + 1 else 0) = _
    rw [if_pos (h b (by simp)), runN_all l fun c hc => h c (by simp [hc])]
    rfl
theorem runN_app {c : UInt8} {r : List UInt8} (hc : isD c = false) : ∀ (l : List UInt8), (∀ b ∈ l, isD b = true) → runN (l ++ c :: r) = l.length
  | [], h => by show (if isD c then runN r + 1 else 0) = _; rw [hc]; rfl
  | b :: l, h => by
    show (if isD b then runN (l ++ c :: r) + 1 else 0) = _
    rw [if_pos (h b (by simp)), runN_app hc l fun c hc => h c (by simp [hc])]
    rfl
theorem back_eq (ng : Bool) (n : Int) (h0 : 0 ≤ n) (h1 : n ≤ 140737488355328) : ∃ v, prsT ng (ub (fmtM n)) = (if ng then -v else v, 0) ∧ n - 1 ≤ v ∧ v ≤ n := by
  obtain ⟨I, hI⟩ : ∃ I, I = n / 65536 := ⟨_, rfl⟩
  obtain ⟨F, hF⟩ : ∃ F, F = n % 65536 * 100000 / 65536 := ⟨_, rfl⟩
  have hI0 : 0 ≤ I := by omega
  have hI1 : I < 10 ^ 10 := by have : (10 : Int) ^ 10 = 10000000000 := by decide
                               omega
  have hI2 : I < 10 ^ 24 := by have : (10 : Int) ^ 24 = 1000000000000000000000000 := by decide
                               omega
  have hF0 : 0 ≤ F := by omega
  have hF1 : F < 10 ^ 5 := by have : (10 : Int) ^ 5 = 100000 := by decide
                              omega
  have hF2 : F < 10 ^ 24 := by have : (10 : Int) ^ 24 = 1000000000000000000000000 := by decide
                               omega
  have hM : ub (fmtM n) = ub (dgs 1 24 I []) ++ (46 : UInt8) :: ub (dgs 5 24 F []) := by
    unfold fmtM
    rw [← hI, ← hF, ub_app, ub_app, List.append_assoc]
    rfl
  have dI := ub_isD (dgs_dg 1 24 I [] dg_nil)
  have dF := ub_isD (dgs_dg 5 24 F [] dg_nil)
  have vI := valF_dgs 1 24 I [] hI0 hI2
  have vF := valF_dgs 5 24 F [] hF0 hF2
  have lI := dgs_most 1 10 (by omega) 24 I [] 10 hI0 hI1 (by simp)
  have lI0 := dgs_least 1 24 I [] (by simp)
  have lF := dgs_most 5 5 (by omega) 24 F [] 5 hF0 hF1 (by simp)
  have lF0 := dgs_least 5 24 F [] (by simp)
  have hh : 1 < (dgs 1 24 I []).length → (ub (dgs 1 24 I [])).head?.map UInt8.toNat ≠ some 48 := by
    intro hl
    by_cases hp : 0 < I
    · obtain ⟨h, t, e, hne⟩ := dgs_head 24 I [] hI0 hI2 (Or.inl hp)
      have hd := dgs_dg 1 24 I [] dg_nil h (by rw [e]; simp)
      rw [e]
      show some (UInt8.ofNat h.toNat).toNat ≠ some 48
      intro hc
      injection hc with hc
      have := byte_of hd.1 hd.2
      omega
    · have := dgs_most 1 1 (by omega) 24 I [] 0 hI0 (by simp; omega) (by simp)
      omega
  rw [← ub_len] at lI lI0 lF lF0 hh
  generalize ub (dgs 1 24 I []) = a at *
  generalize ub (dgs 5 24 F []) = b at *
  have ra : runN (a ++ (46 : UInt8) :: b) = a.length := runN_app (by decide) a dI
  have rb : runN b = b.length := runN_all b dF
  have hbl : b.length = 5 := by omega
  have hok : ¬ (runN (a ++ (46 : UInt8) :: b) < 1 ∨ 10 < runN (a ++ (46 : UInt8) :: b) ∨ (1 < runN (a ++ (46 : UInt8) :: b) ∧ (a ++ (46 : UInt8) :: b).head?.map UInt8.toNat = some 48)) := by
    rw [ra]
    rintro (h | h | ⟨h, h'⟩)
    · omega
    · omega
    · cases a with
      | nil => simp at h
      | cons x a => exact hh h h'
  have hdrop : (a ++ (46 : UInt8) :: b).drop (runN (a ++ (46 : UInt8) :: b)) = (46 : UInt8) :: b := by rw [ra]; simp
  have htake : (a ++ (46 : UInt8) :: b).take (runN (a ++ (46 : UInt8) :: b)) = a := by rw [ra]; simp
  have hok2 : ¬ ((46 : UInt8).toNat ≠ 46 ∨ runN b < 1 ∨ 5 < runN b ∨ runN b ≠ b.length) := by
    rw [rb, hbl]
    rintro (h | h | h | h)
    · exact h rfl
    · omega
    · omega
    · omega
  have e := prsT_part (ng := ng) hok hdrop hok2
  rw [htake, rb, hbl, vI, vF] at e
  have e5 : (10 : Int) ^ 5 = 100000 := by decide
  simp only [show valF I (ub []) = I from rfl, show valF F (ub []) = F from rfl, e5] at e
  refine ⟨I * 65536 + (F * 65536 + 100000 / 2) / 100000, ?_, ?_, ?_⟩
  · rw [hM, e]
    unfold fin
    rw [if_neg (by omega)]
  · omega
  · omega
theorem fmt_head (n : Int) : ∃ (b : UInt8) (t : List UInt8), ub (fmtM n) = b :: t ∧ isD b = true := by
  have h := dgs_least 1 24 (n / 65536) [] (by simp)
  have d := ub_isD (dgs_dg 1 24 (n / 65536) [] dg_nil)
  rw [← ub_len] at h
  unfold fmtM
  rw [ub_app, ub_app]
  generalize ub (dgs 1 24 (n / 65536) []) = a at *
  cases a with
  | nil => simp at h
  | cons b t => exact ⟨b, t ++ ub [46] ++ ub (dgs 5 24 (n % 65536 * 100000 / 65536) []), rfl, d b (by simp)⟩
/-- a number is parsed from its text with an error of at most 1 -/
theorem back (a : Int) (h0 : -140737488355328 ≤ a) (h1 : a ≤ 140737488355328) : (prs (ub (fmtA a))).2 = 0 ∧ -1 ≤ (prs (ub (fmtA a))).1 - a ∧ (prs (ub (fmtA a))).1 - a ≤ 1 := by
  unfold fmtA
  by_cases ha : a < 0
  · rw [if_pos ha]
    obtain ⟨v, e, k1, k2⟩ := back_eq true (-a) (by omega) (by omega)
    have : prs (ub (45 :: fmtM (-a))) = prsT true (ub (fmtM (-a))) := rfl
    rw [this, e]
    show (0 : Int) = 0 ∧ -1 ≤ -v - a ∧ -v - a ≤ 1
    omega
  · rw [if_neg ha]
    obtain ⟨v, e, k1, k2⟩ := back_eq false a (by omega) (by omega)
    obtain ⟨b, t, eh, hd⟩ := fmt_head a
    have : prs (ub (fmtM a)) = prsT false (ub (fmtM a)) := by
      rw [eh]
      show (if _ then _ else _) = _
      rw [if_neg]
      unfold isD at hd
      simp at hd
      omega
    rw [this, e]
    show (0 : Int) = 0 ∧ -1 ≤ v - a ∧ v - a ≤ 1
    omega
end Go.Proofs.YteinfhfapelegaaDoor
