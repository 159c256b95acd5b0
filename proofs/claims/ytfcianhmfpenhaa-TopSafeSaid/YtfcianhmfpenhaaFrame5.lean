/- Opening an array of five integers. -/
import Derived.Test.YtfcianhmfpenhaaFrame2
namespace Go.Proofs.Ytfcianhmfpenhaa
open Go.ChangeShapes Go.WideShapes Go.ChangeAt Go.RowKit
variable {H : Type} {enc : TypeId × Value → H} {P : Program} {W : World}
theorem open_arr5 {t e : TypeId} {k : IntKind} {r : Reach} {base b0 : Nat} {spare : Nat → Bool} {held : Bool} {v : Value} {d : DataW H} {p : List MemPlace}
    (ht : P.underlying t = some (.array 5 e)) (hC : P.cellsOf t = 5) (he : P.underlying e = some (.int k)) (hE : P.cellsOf e = 1)
    (hv : Value.okWide P W r b0 t v) (h : DataW.Trod enc P W base spare held t v d p) :
    ∃ a0 a1 a2 a3 a4 : Int, v = .agg #[.int k a0, .int k a1, .int k a2, .int k a3, .int k a4] ∧ (Lit.int k a0).wf = true ∧ (Lit.int k a1).wf = true ∧ (Lit.int k a2).wf = true ∧ (Lit.int k a3).wf = true ∧ (Lit.int k a4).wf = true := by
  obtain ⟨cs, rfl, hsz⟩ := okWide_array ht hv
  obtain ⟨l⟩ := cs
  match l, hsz.trans hC with
  | [c0, c1, c2, c3, c4], _ =>
    obtain ⟨fuel, hf⟩ := h
    obtain ⟨xs, n, _, hx, _, hlen, hg⟩ := DataW.trod_array ht hf
    match xs, hlen with
    | [y0, y1, y2, y3, y4], _ =>
      have h0 : DataW.trod enc P W base spare held n e [c0] = some y0 := by simpa [Value.cells, hE] using hg 0 (by omega)
      have h1 : DataW.trod enc P W base spare held n e [c1] = some y1 := by simpa [Value.cells, hE] using hg 1 (by omega)
      have h2 : DataW.trod enc P W base spare held n e [c2] = some y2 := by simpa [Value.cells, hE] using hg 2 (by omega)
      have h3 : DataW.trod enc P W base spare held n e [c3] = some y3 := by simpa [Value.cells, hE] using hg 3 (by omega)
      have h4 : DataW.trod enc P W base spare held n e [c4] = some y4 := by simpa [Value.cells, hE] using hg 4 (by omega)
      obtain ⟨a0, g0, rfl, w0⟩ := DataW.trod_int he h0
      obtain ⟨a1, g1, rfl, w1⟩ := DataW.trod_int he h1
      obtain ⟨a2, g2, rfl, w2⟩ := DataW.trod_int he h2
      obtain ⟨a3, g3, rfl, w3⟩ := DataW.trod_int he h3
      obtain ⟨a4, g4, rfl, w4⟩ := DataW.trod_int he h4
      simp at g0 g1 g2 g3 g4
      subst g0 g1 g2 g3 g4
      exact ⟨a0, a1, a2, a3, a4, rfl, w0, w1, w2, w3, w4⟩
theorem u16_range {a : Int} (h : (Lit.int .u16 a).wf = true) : 0 ≤ a ∧ a ≤ 65535 := by
  simp [Lit.wf, IntKind.min, IntKind.max, IntKind.signed, IntKind.bits] at h
  omega
end Go.Proofs.Ytfcianhmfpenhaa
