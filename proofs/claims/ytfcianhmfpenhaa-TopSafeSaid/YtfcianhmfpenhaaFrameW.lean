/- A slice of walks: a point and a slice of points each. -/
import Derived.Test.YtfcianhmfpenhaaFrame3
namespace Go.Proofs.Ytfcianhmfpenhaa
open Go.ChangeShapes Go.WideShapes Go.ChangeAt Go.RowKit Go.Joins Go.Deep
set_option linter.unusedVariables false
/-- a walk -/
structure Wlk where
  x : Int
  y : Int
  a : Option Addr
  n : Nat
  c : Nat
  X : Nat → Int
  Y : Nat → Int
/-- a walk lies at an address -/
def WlkAt (w : World) (p : Addr) (s : Wlk) : Prop :=
  w.cell? (p.add 0) = some (.int .i64 s.x) ∧ w.cell? (p.add 1) = some (.int .i64 s.y) ∧ w.cell? (p.add 2) = some (.slice s.a s.n s.c) ∧ s.n ≤ maxLen ∧
  (0 < s.n → ∃ b off, s.a = some ⟨b, off, none⟩ ∧ b < w.heap.size ∧ ∀ i, i < s.n → w.cell? ⟨b, off + i * 2, none⟩ = some (.int .i64 (s.X i)) ∧ w.cell? ⟨b, off + i * 2 + 1, none⟩ = some (.int .i64 (s.Y i)))
section
variable {H : Type} {enc : TypeId × Value → H} {P : Program} {W : World} {base : Nat} {spare : Nat → Bool} {held : Bool}
theorem pts_of {t e ti : TypeId} {f0 f1 : Field} {fuel : Nat} {v : Value} {y : DataW H × List MemPlace} (ht : P.underlying t = some (.slice e)) (hs : P.underlying e = some (.struct #[f0, f1])) (hone : oneCellFields P #[f0, f1] = true) (hC : P.cellsOf e = 2) (hi : P.underlying ti = some (.int .i64)) (e0 : f0.type = ti) (e1 : f1.type = ti)
    (h : DataW.trod enc P W base spare held fuel t [v] = some y) :
    ∃ (a : Option Addr) (len cap : Nat) (X Y : Nat → Int), v = .slice a len cap ∧ len ≤ maxLen ∧ (a = none → len = 0) ∧ (0 < len → ∃ b off, a = some ⟨b, off, none⟩ ∧ b < W.heap.size ∧
      ∀ i, i < len → W.cell? ⟨b, off + i * 2, none⟩ = some (.int .i64 (X i)) ∧ W.cell? ⟨b, off + (i * 2 + 1), none⟩ = some (.int .i64 (Y i)) ∧ (Lit.int .i64 (X i)).wf = true ∧ (Lit.int .i64 (Y i)).wf = true) := by
  rcases open_slice ht h with ⟨h1, _⟩ | ⟨a', len, cap, m, n, D, Pl, h1, hb, hl, hm, hmm, _, hx⟩
  · simp at h1
    subst h1
    exact ⟨none, 0, 0, fun _ => 0, fun _ => 0, rfl, Nat.zero_le _, fun _ => rfl, fun h => absurd h (by omega)⟩
  · simp at h1
    subst h1
    have hlm : len ≤ m := by rw [hmm]; split <;> omega
    have key : ∀ i, i < len → ∃ xy : Int × Int, W.cell? (a'.add (i * 2)) = some (.int .i64 xy.1) ∧ W.cell? (a'.add (i * 2 + 1)) = some (.int .i64 xy.2) ∧ (Lit.int .i64 xy.1).wf = true ∧ (Lit.int .i64 xy.2).wf = true := fun i hi' => by
      obtain ⟨cs', hc, ht'⟩ := hx i (by omega)
      rw [hC] at hc
      obtain ⟨_, hcl, hat⟩ := World.cells?_some hc
      match cs', hcl with
      | [c0, c1], _ =>
        obtain ⟨a0, a1, rfl, rfl, w0, w1⟩ := ints2_of hs hone hi e0 e1 ht'
        have q0 := hat 0 (by omega)
        have q1 := hat 1 (by omega)
        rw [Go.Deep.add_add] at q0 q1
        exact ⟨(a0, a1), by simpa using q0, by simpa using q1, w0, w1⟩
    have key2 : ∃ F : Nat → Int × Int, ∀ i, i < len → W.cell? (a'.add (i * 2)) = some (.int .i64 (F i).1) ∧ W.cell? (a'.add (i * 2 + 1)) = some (.int .i64 (F i).2) ∧ (Lit.int .i64 (F i).1).wf = true ∧ (Lit.int .i64 (F i).2).wf = true := by
      refine ⟨fun i => if h : i < len then Classical.choose (key i h) else (0, 0), fun i h => ?_⟩
      simp only [dif_pos h]
      exact Classical.choose_spec (key i h)
    obtain ⟨F, hF⟩ := key2
    refine ⟨some a', len, cap, fun i => (F i).1, fun i => (F i).2, rfl, by omega, (fun h => by cases h), fun hpos => ?_⟩
    obtain ⟨b, off, sp⟩ := a'
    obtain ⟨s1, s2⟩ := cell_spot (hF 0 hpos).1
    have hsp : sp = none := by
      unfold Addr.add at s1
      simpa using s1
    subst hsp
    simp only [add_plain] at hF s2
    exact ⟨b, off, rfl, s2, hF⟩

theorem open_walks {r : Reach} {b0 : Nat} {t e ti ts tp : TypeId} {f0 f1 g0 g1 : Field} {v : Value} {d : DataW H} {p : List MemPlace} (ht : P.underlying t = some (.slice e)) (he : P.underlying e = some (.struct #[f0, f1])) (hC : P.cellsOf e = 3)
    (o0 : f0.offset = 0) (o1 : f1.offset = 2) (e0 : f0.type = tp) (e1 : f1.type = ts) (cs : P.cellsOf ts = 1)
    (hi : P.underlying ti = some (.int .i64)) (hts : P.underlying ts = some (.slice tp)) (hs : P.underlying tp = some (.struct #[g0, g1])) (hone : oneCellFields P #[g0, g1] = true) (hCp : P.cellsOf tp = 2) (q0 : g0.type = ti) (q1 : g1.type = ti)
    (hv : Value.okWide P W r b0 t v) (h : DataW.Trod enc P W base spare held t v d p) :
    ∃ (a : Option Addr) (len cap : Nat) (F : Nat → Wlk), v = .slice a len cap ∧ len ≤ maxLen ∧ (0 < len → ∃ b off, a = some ⟨b, off, none⟩ ∧ b < W.heap.size ∧ ∀ i, i < len → WlkAt W ⟨b, off + i * 3, none⟩ (F i)) := by
  obtain ⟨a, len, cap, rfl⟩ := okWide_slice ht hv
  obtain ⟨fuel, hf⟩ := h
  rcases open_slice ht (by simpa [Value.cells] using hf) with ⟨h1, _⟩ | ⟨a', len', cap', m, n, D, Pl, h1, hb, hl, hm, hmm, _, hx⟩
  · simp at h1
    obtain ⟨rfl, rfl, rfl⟩ := h1
    exact ⟨none, 0, 0, fun _ => ⟨0, 0, none, 0, 0, fun _ => 0, fun _ => 0⟩, rfl, Nat.zero_le _, fun h => absurd h (by omega)⟩
  · simp at h1
    obtain ⟨rfl, rfl, rfl⟩ := h1
    have hlm : len ≤ m := by rw [hmm]; split <;> omega
    have key : ∀ i, i < len → ∃ s : Wlk, WlkAt W (a'.add (i * 3)) s := fun i hi' => by
      obtain ⟨cs', hc, ht'⟩ := hx i (by omega)
      rw [hC] at hc
      obtain ⟨_, hcl, hat⟩ := World.cells?_some hc
      match cs', hcl with
      | [c0, c1, c2], _ =>
        obtain ⟨xs, n', _, hx', _, hlen, hg⟩ := DataW.trod_struct he ht'
        match xs, hlen with
        | [y0, y1], _ =>
          have h0 : DataW.trod enc P W base spare held n' f0.type [c0, c1] = some y0 := by simpa [Value.cells, o0, e0, hCp] using hg 0 f0 rfl
          have h1 : DataW.trod enc P W base spare held n' f1.type [c2] = some y1 := by simpa [Value.cells, o1, e1, cs] using hg 1 f1 rfl
          rw [e0] at h0
          rw [e1] at h1
          obtain ⟨x, y, k0, k1, w0, w1⟩ := ints2_of hs hone hi q0 q1 h0
          subst k0 k1
          obtain ⟨pa, pn, pc, X, Y, rfl, r1, r2, r3⟩ := pts_of hts hs hone hCp hi q0 q1 h1
          have z0 := hat 0 (by omega)
          have z1 := hat 1 (by omega)
          have z2 := hat 2 (by omega)
          refine ⟨⟨x, y, pa, pn, pc, X, Y⟩, by simpa using z0, by simpa using z1, by simpa using z2, r1, fun hp => ?_⟩
          obtain ⟨b, off, s1, s2, s3⟩ := r3 hp
          exact ⟨b, off, s1, s2, fun j hj => ⟨(s3 j hj).1, (s3 j hj).2.1⟩⟩
    have key2 : ∃ F : Nat → Wlk, ∀ i, i < len → WlkAt W (a'.add (i * 3)) (F i) := by
      refine ⟨fun i => if h : i < len then Classical.choose (key i h) else ⟨0, 0, none, 0, 0, fun _ => 0, fun _ => 0⟩, fun i h => ?_⟩
      simp only [dif_pos h]
      exact Classical.choose_spec (key i h)
    obtain ⟨F, hF⟩ := key2
    refine ⟨some a', len, cap, F, rfl, by omega, fun hpos => ?_⟩
    obtain ⟨b, off, sp⟩ := a'
    have c0 := (hF 0 hpos).1
    rw [Go.Deep.add_add] at c0
    obtain ⟨s1, s2⟩ := cell_spot c0
    have hsp : sp = none := by
      unfold Addr.add at s1
      simpa using s1
    subst hsp
    simp only [add_plain] at hF s2
    exact ⟨b, off, rfl, s2, hF⟩
end
end Go.Proofs.Ytfcianhmfpenhaa
