/- Arrays of small integers by value: the numbers, and that each fits. Of any program. -/
import Derived.Test.YtfcianhmfpenhaaFrame
namespace Go.Proofs.Ytfcianhmfpenhaa
open Go.ChangeShapes Go.WideShapes Go.ChangeAt Go.RowKit Go.Joins Go.Deep

section
variable {H : Type} {enc : TypeId × Value → H} {P : Program} {W : World}

theorem okWide_array {r : Reach} {base : Nat} {t e : TypeId} {n : Nat} {v : Value} (ht : P.underlying t = some (.array n e)) (h : Value.okWide P W r base t v) : ∃ cs, v = .agg cs ∧ cs.size = P.cellsOf t := by
  simp only [Value.okWide, ht] at h
  obtain ⟨cs, h1, h2, _⟩ := h
  exact ⟨cs, h1, h2⟩

/-- An array of two integers of one kind. -/
theorem open_arr2 {t e : TypeId} {k : IntKind} {r : Reach} {base b0 : Nat} {spare : Nat → Bool} {held : Bool} {v : Value} {d : DataW H} {p : List MemPlace}
    (ht : P.underlying t = some (.array 2 e)) (hC : P.cellsOf t = 2) (he : P.underlying e = some (.int k)) (hE : P.cellsOf e = 1)
    (hv : Value.okWide P W r b0 t v) (h : DataW.Trod enc P W base spare held t v d p) :
    ∃ a0 a1 : Int, v = .agg #[.int k a0, .int k a1] ∧ (Lit.int k a0).wf = true ∧ (Lit.int k a1).wf = true := by
  obtain ⟨cs, rfl, hsz⟩ := okWide_array ht hv
  obtain ⟨l⟩ := cs
  match l, hsz.trans hC with
  | [c0, c1], _ =>
    obtain ⟨fuel, hf⟩ := h
    obtain ⟨xs, n, _, hx, _, hlen, hg⟩ := DataW.trod_array ht hf
    match xs, hlen with
    | [y0, y1], _ =>
      have h0 : DataW.trod enc P W base spare held n e [c0] = some y0 := by simpa [Value.cells, hE] using hg 0 (by omega)
      have h1 : DataW.trod enc P W base spare held n e [c1] = some y1 := by simpa [Value.cells, hE] using hg 1 (by omega)
      obtain ⟨a0, g0, rfl, w0⟩ := DataW.trod_int he h0
      obtain ⟨a1, g1, rfl, w1⟩ := DataW.trod_int he h1
      simp at g0 g1
      subst g0 g1
      exact ⟨a0, a1, rfl, w0, w1⟩

/-- An array of three integers of one kind. -/
theorem open_arr3 {t e : TypeId} {k : IntKind} {r : Reach} {base b0 : Nat} {spare : Nat → Bool} {held : Bool} {v : Value} {d : DataW H} {p : List MemPlace}
    (ht : P.underlying t = some (.array 3 e)) (hC : P.cellsOf t = 3) (he : P.underlying e = some (.int k)) (hE : P.cellsOf e = 1)
    (hv : Value.okWide P W r b0 t v) (h : DataW.Trod enc P W base spare held t v d p) :
    ∃ a0 a1 a2 : Int, v = .agg #[.int k a0, .int k a1, .int k a2] ∧ (Lit.int k a0).wf = true ∧ (Lit.int k a1).wf = true ∧ (Lit.int k a2).wf = true := by
  obtain ⟨cs, rfl, hsz⟩ := okWide_array ht hv
  obtain ⟨l⟩ := cs
  match l, hsz.trans hC with
  | [c0, c1, c2], _ =>
    obtain ⟨fuel, hf⟩ := h
    obtain ⟨xs, n, _, hx, _, hlen, hg⟩ := DataW.trod_array ht hf
    match xs, hlen with
    | [y0, y1, y2], _ =>
      have h0 : DataW.trod enc P W base spare held n e [c0] = some y0 := by simpa [Value.cells, hE] using hg 0 (by omega)
      have h1 : DataW.trod enc P W base spare held n e [c1] = some y1 := by simpa [Value.cells, hE] using hg 1 (by omega)
      have h2 : DataW.trod enc P W base spare held n e [c2] = some y2 := by simpa [Value.cells, hE] using hg 2 (by omega)
      obtain ⟨a0, g0, rfl, w0⟩ := DataW.trod_int he h0
      obtain ⟨a1, g1, rfl, w1⟩ := DataW.trod_int he h1
      obtain ⟨a2, g2, rfl, w2⟩ := DataW.trod_int he h2
      simp at g0 g1 g2
      subst g0 g1 g2
      exact ⟨a0, a1, a2, rfl, w0, w1, w2⟩

theorem i32_range {a : Int} (h : (Lit.int .i32 a).wf = true) : -2147483648 ≤ a ∧ a ≤ 2147483647 := by
  simp [Lit.wf, IntKind.min, IntKind.max, IntKind.signed, IntKind.bits] at h
  omega
end
end Go.Proofs.Ytfcianhmfpenhaa
