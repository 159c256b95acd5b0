/- Slices of structs of a number and a truth. -/
import Derived.Test.YthklehpekglohaaDoorFrame3
import Derived.Deep.Slices
import Derived.Deep.Fields
namespace Go.Proofs.YthklehpekglohaaDoor
open Go.ChangeShapes Go.WideShapes Go.ChangeAt Go.RowKit Go.Joins Go.Deep

section
variable {H : Type} {enc : TypeId × Value → H} {P : Program} {W : World} {base b0 : Nat} {spare : Nat → Bool} {held : Bool}

theorem intbool_of {t ti tb : TypeId} {f0 f1 : Field} {fuel : Nat} {c0 c1 : Value} {y : DataW H × List MemPlace} (hs : P.underlying t = some (.struct #[f0, f1])) (hone : oneCellFields P #[f0, f1] = true) (hi : P.underlying ti = some (.int .i64)) (hb : P.underlying tb = some .bool) (e0 : f0.type = ti) (e1 : f1.type = tb)
    (h : DataW.trod enc P W base spare held fuel t [c0, c1] = some y) : ∃ (a0 : Int) (a1 : Bool), c0 = .int .i64 a0 ∧ c1 = .bool a1 ∧ (Lit.int .i64 a0).wf = true := by
  obtain ⟨xs, n, _, hx, _, hlen, hg⟩ := DataW.trod_struct hs h
  obtain ⟨o0, k0⟩ := hone_of hone 0 f0 rfl
  obtain ⟨o1, k1⟩ := hone_of hone 1 f1 rfl
  match xs, hlen with
  | [y0, y1], _ =>
    have h0 : DataW.trod enc P W base spare held n f0.type [c0] = some y0 := by simpa [o0, k0] using hg 0 f0 rfl
    have h1 : DataW.trod enc P W base spare held n f1.type [c1] = some y1 := by simpa [o1, k1] using hg 1 f1 rfl
    rw [e0] at h0
    rw [e1] at h1
    obtain ⟨a0, g0, rfl, w0⟩ := DataW.trod_int hi h0
    obtain ⟨a1, g1, rfl⟩ := DataW.trod_bool hb h1
    simp at g0 g1
    exact ⟨a0, a1, g0, g1, w0⟩

/-- A slice of structs of a number and a truth. -/
theorem open_ops {r : Reach} {t e ti tb : TypeId} {f0 f1 : Field} {v : Value} {d : DataW H} {p : List MemPlace} (ht : P.underlying t = some (.slice e)) (hs : P.underlying e = some (.struct #[f0, f1])) (hone : oneCellFields P #[f0, f1] = true) (hC : P.cellsOf e = 2) (hi : P.underlying ti = some (.int .i64)) (e0 : f0.type = ti) (hb : P.underlying tb = some .bool) (e1 : f1.type = tb)
    (hv : Value.okWide P W r b0 t v) (h : DataW.Trod enc P W base spare held t v d p) :
    ∃ (a : Option Addr) (len cap : Nat) (X : Nat → Int) (Y : Nat → Bool), v = .slice a len cap ∧ len ≤ maxLen ∧ (a = none → len = 0) ∧ (0 < len → ∃ b off, a = some ⟨b, off, none⟩ ∧ b < W.heap.size ∧
      ∀ i, i < len → W.cell? ⟨b, off + i * 2, none⟩ = some (.int .i64 (X i)) ∧ W.cell? ⟨b, off + (i * 2 + 1), none⟩ = some (.bool (Y i)) ∧ (Lit.int .i64 (X i)).wf = true) := by
  obtain ⟨a, len, cap, rfl⟩ := okWide_slice ht hv
  obtain ⟨fuel, hf⟩ := h
  rcases open_slice ht (by simpa [Value.cells] using hf) with ⟨h1, _⟩ | ⟨a', len', cap', m, n, D, Pl, h1, hbb, hl, hm, hmm, _, hx⟩
  · simp at h1
    obtain ⟨rfl, rfl, rfl⟩ := h1
    exact ⟨none, 0, 0, fun _ => 0, fun _ => false, rfl, Nat.zero_le _, fun _ => rfl, fun h => absurd h (by omega)⟩
  · simp at h1
    obtain ⟨rfl, rfl, rfl⟩ := h1
    have hlm : len ≤ m := by rw [hmm]; split <;> omega
    have key : ∀ i, i < len → ∃ xy : Int × Bool, W.cell? (a'.add (i * 2)) = some (.int .i64 xy.1) ∧ W.cell? (a'.add (i * 2 + 1)) = some (.bool xy.2) ∧ (Lit.int .i64 xy.1).wf = true := fun i hi' => by
      obtain ⟨cs', hc, ht'⟩ := hx i (by omega)
      rw [hC] at hc
      obtain ⟨_, hcl, hat⟩ := World.cells?_some hc
      match cs', hcl with
      | [c0, c1], _ =>
        obtain ⟨a0, a1, rfl, rfl, w0⟩ := intbool_of hs hone hi hb e0 e1 ht'
        have q0 := hat 0 (by omega)
        have q1 := hat 1 (by omega)
        rw [Go.Deep.add_add] at q0 q1
        exact ⟨(a0, a1), by simpa using q0, by simpa using q1, w0⟩
    have key2 : ∃ F : Nat → Int × Bool, ∀ i, i < len → W.cell? (a'.add (i * 2)) = some (.int .i64 (F i).1) ∧ W.cell? (a'.add (i * 2 + 1)) = some (.bool (F i).2) ∧ (Lit.int .i64 (F i).1).wf = true := by
      refine ⟨fun i => if h : i < len then Classical.choose (key i h) else (0, false), fun i h => ?_⟩
      simp only [dif_pos h]
      exact Classical.choose_spec (key i h)
    obtain ⟨F, hF⟩ := key2
    refine ⟨some a', len, cap, fun i => (F i).1, fun i => (F i).2, rfl, by omega, (fun h => by cases h), fun hpos => ?_⟩
    obtain ⟨b, off, sp⟩ := a'
    obtain ⟨s1, s2⟩ := cell_spot (hF 0 hpos).1
    have hsp : sp = none := by
      unfold Addr.add at s1
      simpa using s1
    subst hsp
    simp only [add_plain] at hF s2
    exact ⟨b, off, rfl, s2, hF⟩

end
end Go.Proofs.YthklehpekglohaaDoor
