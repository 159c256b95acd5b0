/- Opening a slice of whole numbers to a list that is read. -/
import Derived.Test.YthklehpekglohaaDoorFrame3
import Derived.Test.YthklehpekglohaaDoorWb
import Derived.Deep.Slices
namespace Go.Proofs.YthklehpekglohaaDoor
open Go.ChangeShapes Go.WideShapes Go.ChangeAt Go.RowKit Go.Deep
section
variable {H : Type} {enc : TypeId × Value → H} {W : World} {base : Nat} {spare : Nat → Bool} {held : Bool}
theorem list_of {p : Nat → Int → Prop} : ∀ n, (∀ i, i < n → ∃ x, p i x) → ∃ l : List Int, l.length = n ∧ ∀ i u, l[i]? = some u → p i u
  | 0, _ => ⟨[], rfl, fun i u h => by simp at h⟩
  | n + 1, h => by
    obtain ⟨l, hl, hp⟩ := list_of n (fun i hi => h i (by omega))
    obtain ⟨x, hx⟩ := h n (by omega)
    refine ⟨l ++ [x], by simp [hl], fun i u hu => ?_⟩
    by_cases hi : i < l.length
    · rw [List.getElem?_append_left hi] at hu
      exact hp i u hu
    · have h2 : i < (l ++ [x]).length := (List.getElem?_eq_some_iff.1 hu).1
      have h3 : i = n := by simp [hl] at h2; omega
      subst h3
      rw [List.getElem?_append_right (by omega), hl, Nat.sub_self] at hu
      have h4 : some x = some u := hu
      injection h4 with h4
      subst h4
      exact hx
theorem open_rdi {r : Reach} {b0 : Nat} {t ti : TypeId} {v : Value} {d : DataW H} {p : List MemPlace} (ht : Tryd.prog.underlying t = some (.slice ti)) (hC : Tryd.prog.cellsOf ti = 1) (hi : Tryd.prog.underlying ti = some (.int .i64))
    (hv : Value.okWide Tryd.prog W r b0 t v) (h : DataW.Trod enc Tryd.prog W base spare held t v d p) : ∃ l : List Int, RdI W v l := by
  obtain ⟨a, len, cap, rfl⟩ := okWide_slice ht hv
  obtain ⟨fuel, hf⟩ := h
  rcases open_slice1 ht hC (by simpa [Value.cells] using hf) with ⟨h1, _⟩ | ⟨a', len', cap', m, n, V, D, Pl, h1, hbb, hl, hm, hmm, _, hx⟩
  · simp at h1
    obtain ⟨rfl, rfl, rfl⟩ := h1
    exact ⟨[], none, 0, rfl, Nat.le_refl _, Nat.zero_le _, fun h => absurd h (by simp)⟩
  · simp at h1
    obtain ⟨rfl, rfl, rfl⟩ := h1
    have hlm : len ≤ m := by rw [hmm]; split <;> omega
    obtain ⟨l, hll, hp⟩ := list_of (p := fun i x => W.cell? (a'.add i) = some (.int .i64 x)) len (fun i hi' => by
      obtain ⟨hc, ht'⟩ := hx i (by omega)
      obtain ⟨x, g0, e, w0⟩ := DataW.trod_int hi ht'
      exact ⟨x, by first | (rw [hc, e]) | (injection e with e1; rw [hc, e1]) | (simp at e; rw [hc]; simp_all)⟩)
    subst hll
    refine ⟨l, some a', cap, rfl, hl, by omega, fun hpos => ?_⟩
    obtain ⟨b, off, sp⟩ := a'
    have c0 := hp 0 l[0] (by simp [hpos])
    obtain ⟨s1, s2⟩ := cell_spot c0
    have hsp : sp = none := by
      unfold Addr.add at s1
      simpa using s1
    subst hsp
    simp only [add_plain] at hp s2
    exact ⟨b, off, rfl, s2, hp⟩
end
end Go.Proofs.YthklehpekglohaaDoor
