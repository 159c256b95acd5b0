/- Opening a slice of bytes. -/
import Derived.Test.YtdcclpdnnhaeoaaFrame3
import Derived.Deep.Slices
import Derived.Test.YtdcclpdnnhaeoaaWf
namespace Go.Proofs.Ytdcclpdnnhaeoaa
open Go.ChangeShapes Go.WideShapes Go.ChangeAt Go.RowKit Go.Deep
theorem u8_range {a : Int} (h : (Lit.int .u8 a).wf = true) : 0 ≤ a ∧ a ≤ 255 := by
  simp [Lit.wf, IntKind.min, IntKind.max, IntKind.signed, IntKind.bits] at h
  omega
section
variable {H : Type} {enc : TypeId × Value → H} {W : World} {base : Nat} {spare : Nat → Bool} {held : Bool}
theorem open_u8s {r : Reach} {b0 : Nat} {t ti : TypeId} {v : Value} {d : DataW H} {p : List MemPlace} (ht : Try.prog.underlying t = some (.slice ti)) (hC : Try.prog.cellsOf ti = 1) (hi : Try.prog.underlying ti = some (.int .u8))
    (hv : Value.okWide Try.prog W r b0 t v) (h : DataW.Trod enc Try.prog W base spare held t v d p) : ∃ (a : Option Addr) (len cap : Nat) (G : Nat → Int), v = .slice a len cap ∧ len ≤ maxLen ∧ (0 < len → ∃ b off, a = some ⟨b, off, none⟩ ∧ b < W.heap.size ∧ ∀ i, i < len → W.cell? ⟨b, off + i, none⟩ = some (.int .u8 (G i)) ∧ 0 ≤ G i ∧ G i ≤ 255) := by
  obtain ⟨a, len, cap, rfl⟩ := okWide_slice ht hv
  obtain ⟨fuel, hf⟩ := h
  rcases open_slice1 ht hC (by simpa [Value.cells] using hf) with ⟨h1, _⟩ | ⟨a', len', cap', m, n, V, D, Pl, h1, hbb, hl, hm, hmm, _, hx⟩
  · simp at h1
    obtain ⟨rfl, rfl, rfl⟩ := h1
    exact ⟨none, 0, 0, fun _ => 0, rfl, Nat.zero_le _, fun h => absurd h (by omega)⟩
  · simp at h1
    obtain ⟨rfl, rfl, rfl⟩ := h1
    have hlm : len ≤ m := by rw [hmm]; split <;> omega
    have key : ∀ i, i < len → ∃ x : Int, W.cell? (a'.add i) = some (.int .u8 x) ∧ 0 ≤ x ∧ x ≤ 255 := fun i hi' => by
      obtain ⟨hc, ht'⟩ := hx i (by omega)
      obtain ⟨x, g0, e, w0⟩ := DataW.trod_int hi ht'
      have := u8_range w0
      exact ⟨x, by first | (rw [hc, e]) | (injection e with e1; rw [hc, e1]) | (simp at e; rw [hc]; simp_all), this.1, this.2⟩
    have key2 : ∃ F : Nat → Int, ∀ i, i < len → W.cell? (a'.add i) = some (.int .u8 (F i)) ∧ 0 ≤ F i ∧ F i ≤ 255 := by
      refine ⟨fun i => if h : i < len then Classical.choose (key i h) else 0, fun i h => ?_⟩
      simp only [dif_pos h]
      exact Classical.choose_spec (key i h)
    obtain ⟨F, hF⟩ := key2
    refine ⟨some a', len, cap, F, rfl, by omega, fun hpos => ?_⟩
    obtain ⟨b, off, sp⟩ := a'
    obtain ⟨s1, s2⟩ := cell_spot (hF 0 hpos).1
    have hsp : sp = none := by
      unfold Addr.add at s1
      simpa using s1
    subst hsp
    simp only [add_plain] at hF s2
    exact ⟨b, off, rfl, s2, hF⟩
end
end Go.Proofs.Ytdcclpdnnhaeoaa
