/- Points and motions (structs of two ints, and of two such structs) by value and in slices: the numbers, and that each fits. Of any program. -/
import Derived.Test.YtfcianhmfpenhaaFrame
import Derived.Deep.Slices
import Derived.Deep.Fields
namespace Go.Proofs.Ytfcianhmfpenhaa
open Go.ChangeShapes Go.WideShapes Go.ChangeAt Go.RowKit Go.Joins Go.Deep

section
variable {H : Type} {enc : TypeId × Value → H} {P : Program} {W : World} {base b0 : Nat} {spare : Nat → Bool} {held : Bool}

theorem ints2_of {t ti : TypeId} {f0 f1 : Field} {fuel : Nat} {c0 c1 : Value} {y : DataW H × List MemPlace} (hs : P.underlying t = some (.struct #[f0, f1])) (hone : oneCellFields P #[f0, f1] = true) (hi : P.underlying ti = some (.int .i64)) (e0 : f0.type = ti) (e1 : f1.type = ti)
    (h : DataW.trod enc P W base spare held fuel t [c0, c1] = some y) : ∃ a0 a1 : Int, c0 = .int .i64 a0 ∧ c1 = .int .i64 a1 ∧ (Lit.int .i64 a0).wf = true ∧ (Lit.int .i64 a1).wf = true := by
  obtain ⟨xs, n, _, hx, _, hlen, hg⟩ := DataW.trod_struct hs h
  obtain ⟨o0, k0⟩ := hone_of hone 0 f0 rfl
  obtain ⟨o1, k1⟩ := hone_of hone 1 f1 rfl
  match xs, hlen with
  | [y0, y1], _ =>
    have h0 : DataW.trod enc P W base spare held n f0.type [c0] = some y0 := by simpa [o0, k0] using hg 0 f0 rfl
    have h1 : DataW.trod enc P W base spare held n f1.type [c1] = some y1 := by simpa [o1, k1] using hg 1 f1 rfl
    rw [e0] at h0
    rw [e1] at h1
    obtain ⟨a0, g0, rfl, w0⟩ := DataW.trod_int hi h0
    obtain ⟨a1, g1, rfl, w1⟩ := DataW.trod_int hi h1
    simp at g0 g1
    exact ⟨a0, a1, g0, g1, w0, w1⟩

theorem ints4_of {t tp ti : TypeId} {g0 g1 f0 f1 : Field} {fuel : Nat} {c0 c1 c2 c3 : Value} {y : DataW H × List MemPlace} (ht : P.underlying t = some (.struct #[g0, g1])) (e2 : g0.type = tp) (e3 : g1.type = tp) (o0 : g0.offset = 0) (o1 : g1.offset = 2) (hC : P.cellsOf tp = 2)
    (hs : P.underlying tp = some (.struct #[f0, f1])) (hone : oneCellFields P #[f0, f1] = true) (hi : P.underlying ti = some (.int .i64)) (e0 : f0.type = ti) (e1 : f1.type = ti)
    (h : DataW.trod enc P W base spare held fuel t [c0, c1, c2, c3] = some y) : ∃ a0 a1 a2 a3 : Int, c0 = .int .i64 a0 ∧ c1 = .int .i64 a1 ∧ c2 = .int .i64 a2 ∧ c3 = .int .i64 a3 ∧ (Lit.int .i64 a0).wf = true ∧ (Lit.int .i64 a1).wf = true ∧ (Lit.int .i64 a2).wf = true ∧ (Lit.int .i64 a3).wf = true := by
  obtain ⟨xs, n, _, hx, _, hlen, hg⟩ := DataW.trod_struct ht h
  match xs, hlen with
  | [y0, y1], _ =>
    have h0 : DataW.trod enc P W base spare held n g0.type [c0, c1] = some y0 := by simpa [o0, e2, hC] using hg 0 g0 rfl
    have h1 : DataW.trod enc P W base spare held n g1.type [c2, c3] = some y1 := by simpa [o1, e3, hC] using hg 1 g1 rfl
    rw [e2] at h0
    rw [e3] at h1
    obtain ⟨a0, a1, q0, q1, w0, w1⟩ := ints2_of hs hone hi e0 e1 h0
    obtain ⟨a2, a3, q2, q3, w2, w3⟩ := ints2_of hs hone hi e0 e1 h1
    exact ⟨a0, a1, a2, a3, q0, q1, q2, q3, w0, w1, w2, w3⟩

theorem open_pt {r : Reach} {t ti : TypeId} {f0 f1 : Field} {v : Value} {d : DataW H} {p : List MemPlace} (hs : P.underlying t = some (.struct #[f0, f1])) (hone : oneCellFields P #[f0, f1] = true) (hC : P.cellsOf t = 2) (hi : P.underlying ti = some (.int .i64)) (e0 : f0.type = ti) (e1 : f1.type = ti)
    (hv : Value.okWide P W r b0 t v) (h : DataW.Trod enc P W base spare held t v d p) : ∃ a0 a1 : Int, v = .agg #[.int .i64 a0, .int .i64 a1] ∧ (Lit.int .i64 a0).wf = true ∧ (Lit.int .i64 a1).wf = true := by
  obtain ⟨cs, rfl, hsz⟩ := okWide_struct hs hv
  obtain ⟨l⟩ := cs
  match l, hsz.trans hC with
  | [c0, c1], _ =>
    obtain ⟨fuel, hf⟩ := h
    obtain ⟨a0, a1, rfl, rfl, w0, w1⟩ := ints2_of hs hone hi e0 e1 (by simpa [Value.cells] using hf)
    exact ⟨a0, a1, rfl, w0, w1⟩

theorem open_mo {r : Reach} {t tp ti : TypeId} {g0 g1 f0 f1 : Field} {v : Value} {d : DataW H} {p : List MemPlace} (ht : P.underlying t = some (.struct #[g0, g1])) (hC4 : P.cellsOf t = 4) (e2 : g0.type = tp) (e3 : g1.type = tp) (o0 : g0.offset = 0) (o1 : g1.offset = 2) (hC : P.cellsOf tp = 2)
    (hs : P.underlying tp = some (.struct #[f0, f1])) (hone : oneCellFields P #[f0, f1] = true) (hi : P.underlying ti = some (.int .i64)) (e0 : f0.type = ti) (e1 : f1.type = ti)
    (hv : Value.okWide P W r b0 t v) (h : DataW.Trod enc P W base spare held t v d p) : ∃ a0 a1 a2 a3 : Int, v = .agg #[.int .i64 a0, .int .i64 a1, .int .i64 a2, .int .i64 a3] ∧ (Lit.int .i64 a0).wf = true ∧ (Lit.int .i64 a1).wf = true ∧ (Lit.int .i64 a2).wf = true ∧ (Lit.int .i64 a3).wf = true := by
  obtain ⟨cs, rfl, hsz⟩ := okWide_struct ht hv
  obtain ⟨l⟩ := cs
  match l, hsz.trans hC4 with
  | [c0, c1, c2, c3], _ =>
    obtain ⟨fuel, hf⟩ := h
    obtain ⟨a0, a1, a2, a3, rfl, rfl, rfl, rfl, w0, w1, w2, w3⟩ := ints4_of ht e2 e3 o0 o1 hC hs hone hi e0 e1 (by simpa [Value.cells] using hf)
    exact ⟨a0, a1, a2, a3, rfl, w0, w1, w2, w3⟩

theorem add_plain {b off n : Nat} : (⟨b, off, none⟩ : Addr).add n = ⟨b, off + n, none⟩ := by
  unfold Addr.add
  split
  · rename_i h; subst h; rfl
  · rfl
theorem cell_spot {w : World} {a : Addr} {u : Value} (h : w.cell? a = some u) : a.spot = none ∧ a.block < w.heap.size := by
  refine ⟨?_, World.block_lt_of_cell? _ _ h⟩
  unfold World.cell? at h
  split at h
  · split at h
    · cases h
    · rename_i h'; simpa using h'
  · cases h

/-- A slice of points. -/
theorem open_pts {r : Reach} {t e ti : TypeId} {f0 f1 : Field} {v : Value} {d : DataW H} {p : List MemPlace} (ht : P.underlying t = some (.slice e)) (hs : P.underlying e = some (.struct #[f0, f1])) (hone : oneCellFields P #[f0, f1] = true) (hC : P.cellsOf e = 2) (hi : P.underlying ti = some (.int .i64)) (e0 : f0.type = ti) (e1 : f1.type = ti)
    (hv : Value.okWide P W r b0 t v) (h : DataW.Trod enc P W base spare held t v d p) :
    ∃ (a : Option Addr) (len cap : Nat) (X Y : Nat → Int), v = .slice a len cap ∧ len ≤ maxLen ∧ (a = none → len = 0) ∧ (0 < len → ∃ b off, a = some ⟨b, off, none⟩ ∧ b < W.heap.size ∧
      ∀ i, i < len → W.cell? ⟨b, off + i * 2, none⟩ = some (.int .i64 (X i)) ∧ W.cell? ⟨b, off + (i * 2 + 1), none⟩ = some (.int .i64 (Y i)) ∧ (Lit.int .i64 (X i)).wf = true ∧ (Lit.int .i64 (Y i)).wf = true) := by
  obtain ⟨a, len, cap, rfl⟩ := okWide_slice ht hv
  obtain ⟨fuel, hf⟩ := h
  rcases open_slice ht (by simpa [Value.cells] using hf) with ⟨h1, _⟩ | ⟨a', len', cap', m, n, D, Pl, h1, hb, hl, hm, hmm, _, hx⟩
  · simp at h1
    obtain ⟨rfl, rfl, rfl⟩ := h1
    exact ⟨none, 0, 0, fun _ => 0, fun _ => 0, rfl, Nat.zero_le _, fun _ => rfl, fun h => absurd h (by omega)⟩
  · simp at h1
    obtain ⟨rfl, rfl, rfl⟩ := h1
    have hlm : len ≤ m := by rw [hmm]; split <;> omega
    have key : ∀ i, i < len → ∃ xy : Int × Int, W.cell? (a'.add (i * 2)) = some (.int .i64 xy.1) ∧ W.cell? (a'.add (i * 2 + 1)) = some (.int .i64 xy.2) ∧ (Lit.int .i64 xy.1).wf = true ∧ (Lit.int .i64 xy.2).wf = true := fun i hi' => by
      obtain ⟨cs', hc, ht'⟩ := hx i (by omega)
      rw [hC] at hc
      obtain ⟨_, hcl, hat⟩ := World.cells?_some hc
      match cs', hcl with
      | [c0, c1], _ =>
        obtain ⟨a0, a1, rfl, rfl, w0, w1⟩ := ints2_of hs hone hi e0 e1 ht'
        have q0 := hat 0 (by omega)
        have q1 := hat 1 (by omega)
        rw [Go.Deep.add_add] at q0 q1
        exact ⟨(a0, a1), by simpa using q0, by simpa using q1, w0, w1⟩
    have key2 : ∃ F : Nat → Int × Int, ∀ i, i < len → W.cell? (a'.add (i * 2)) = some (.int .i64 (F i).1) ∧ W.cell? (a'.add (i * 2 + 1)) = some (.int .i64 (F i).2) ∧ (Lit.int .i64 (F i).1).wf = true ∧ (Lit.int .i64 (F i).2).wf = true := by
      refine ⟨fun i => if h : i < len then Classical.choose (key i h) else (0, 0), fun i h => ?_⟩
      simp only [dif_pos h]
      exact Classical.choose_spec (key i h)
    obtain ⟨F, hF⟩ := key2
    refine ⟨some a', len, cap, fun i => (F i).1, fun i => (F i).2, rfl, by omega, (fun h => by cases h), fun hpos => ?_⟩
    obtain ⟨b, off, sp⟩ := a'
    obtain ⟨s1, s2⟩ := cell_spot (hF 0 hpos).1
    have hsp : sp = none := by
      unfold Addr.add at s1
      simpa using s1
    subst hsp
    simp only [add_plain] at hF s2
    exact ⟨b, off, rfl, s2, hF⟩

/-- A slice of motions. -/
theorem open_mos {r : Reach} {t e tp ti : TypeId} {g0 g1 f0 f1 : Field} {v : Value} {d : DataW H} {p : List MemPlace} (ht : P.underlying t = some (.slice e)) (hs' : P.underlying e = some (.struct #[g0, g1])) (hC4 : P.cellsOf e = 4) (e2 : g0.type = tp) (e3 : g1.type = tp) (o0 : g0.offset = 0) (o1 : g1.offset = 2) (hC : P.cellsOf tp = 2)
    (hs : P.underlying tp = some (.struct #[f0, f1])) (hone : oneCellFields P #[f0, f1] = true) (hi : P.underlying ti = some (.int .i64)) (e0 : f0.type = ti) (e1 : f1.type = ti)
    (hv : Value.okWide P W r b0 t v) (h : DataW.Trod enc P W base spare held t v d p) :
    ∃ (a : Option Addr) (len cap : Nat) (F : Nat → Int × Int × Int × Int), v = .slice a len cap ∧ len ≤ maxLen ∧ (a = none → len = 0) ∧ (0 < len → ∃ b off, a = some ⟨b, off, none⟩ ∧ b < W.heap.size ∧
      ∀ i, i < len → W.cell? ⟨b, off + i * 4, none⟩ = some (.int .i64 (F i).1) ∧ W.cell? ⟨b, off + (i * 4 + 1), none⟩ = some (.int .i64 (F i).2.1) ∧ W.cell? ⟨b, off + (i * 4 + 2), none⟩ = some (.int .i64 (F i).2.2.1) ∧ W.cell? ⟨b, off + (i * 4 + 3), none⟩ = some (.int .i64 (F i).2.2.2) ∧
        (Lit.int .i64 (F i).1).wf = true ∧ (Lit.int .i64 (F i).2.1).wf = true ∧ (Lit.int .i64 (F i).2.2.1).wf = true ∧ (Lit.int .i64 (F i).2.2.2).wf = true) := by
  obtain ⟨a, len, cap, rfl⟩ := okWide_slice ht hv
  obtain ⟨fuel, hf⟩ := h
  rcases open_slice ht (by simpa [Value.cells] using hf) with ⟨h1, _⟩ | ⟨a', len', cap', m, n, D, Pl, h1, hb, hl, hm, hmm, _, hx⟩
  · simp at h1
    obtain ⟨rfl, rfl, rfl⟩ := h1
    exact ⟨none, 0, 0, fun _ => (0, 0, 0, 0), rfl, Nat.zero_le _, fun _ => rfl, fun h => absurd h (by omega)⟩
  · simp at h1
    obtain ⟨rfl, rfl, rfl⟩ := h1
    have hlm : len ≤ m := by rw [hmm]; split <;> omega
    have key : ∀ i, i < len → ∃ x : Int × Int × Int × Int, W.cell? (a'.add (i * 4)) = some (.int .i64 x.1) ∧ W.cell? (a'.add (i * 4 + 1)) = some (.int .i64 x.2.1) ∧ W.cell? (a'.add (i * 4 + 2)) = some (.int .i64 x.2.2.1) ∧ W.cell? (a'.add (i * 4 + 3)) = some (.int .i64 x.2.2.2) ∧ (Lit.int .i64 x.1).wf = true ∧ (Lit.int .i64 x.2.1).wf = true ∧ (Lit.int .i64 x.2.2.1).wf = true ∧ (Lit.int .i64 x.2.2.2).wf = true := fun i hi' => by
      obtain ⟨cs', hc, ht'⟩ := hx i (by omega)
      rw [hC4] at hc
      obtain ⟨_, hcl, hat⟩ := World.cells?_some hc
      match cs', hcl with
      | [c0, c1, c2, c3], _ =>
        obtain ⟨a0, a1, a2, a3, rfl, rfl, rfl, rfl, w0, w1, w2, w3⟩ := ints4_of hs' e2 e3 o0 o1 hC hs hone hi e0 e1 ht'
        have q0 := hat 0 (by omega)
        have q1 := hat 1 (by omega)
        have q2 := hat 2 (by omega)
        have q3 := hat 3 (by omega)
        rw [Go.Deep.add_add] at q0 q1 q2 q3
        exact ⟨(a0, a1, a2, a3), by simpa using q0, by simpa using q1, by simpa using q2, by simpa using q3, w0, w1, w2, w3⟩
    have key2 : ∃ F : Nat → Int × Int × Int × Int, ∀ i, i < len → W.cell? (a'.add (i * 4)) = some (.int .i64 (F i).1) ∧ W.cell? (a'.add (i * 4 + 1)) = some (.int .i64 (F i).2.1) ∧ W.cell? (a'.add (i * 4 + 2)) = some (.int .i64 (F i).2.2.1) ∧ W.cell? (a'.add (i * 4 + 3)) = some (.int .i64 (F i).2.2.2) ∧ (Lit.int .i64 (F i).1).wf = true ∧ (Lit.int .i64 (F i).2.1).wf = true ∧ (Lit.int .i64 (F i).2.2.1).wf = true ∧ (Lit.int .i64 (F i).2.2.2).wf = true := by
      refine ⟨fun i => if h : i < len then Classical.choose (key i h) else (0, 0, 0, 0), fun i h => ?_⟩
      simp only [dif_pos h]
      exact Classical.choose_spec (key i h)
    obtain ⟨F, hF⟩ := key2
    refine ⟨some a', len, cap, F, rfl, by omega, (fun h => by cases h), fun hpos => ?_⟩
    obtain ⟨b, off, sp⟩ := a'
    obtain ⟨s1, s2⟩ := cell_spot (hF 0 hpos).1
    have hsp : sp = none := by
      unfold Addr.add at s1
      simpa using s1
    subst hsp
    simp only [add_plain] at hF s2
    exact ⟨b, off, rfl, s2, hF⟩
end
end Go.Proofs.Ytfcianhmfpenhaa
