/- A struct of an array of three bytes, two ints and a slice of points. -/
import Derived.Test.YtdcclpdnnhaeoaaFrame3
import Derived.OpenShut
namespace Go.Proofs.Ytdcclpdnnhaeoaa
open Go.ChangeShapes Go.WideShapes Go.ChangeAt Go.RowKit Go.Joins Go.Deep
section
variable {H : Type} {enc : TypeId × Value → H} {P : Program} {W : World} {base b0 : Nat} {spare : Nat → Bool} {held : Bool}
theorem pts_of {t e ti : TypeId} {f0 f1 : Field} {fuel : Nat} {v : Value} {y : DataW H × List MemPlace} (ht : P.underlying t = some (.slice e)) (hs : P.underlying e = some (.struct #[f0, f1])) (hone : oneCellFields P #[f0, f1] = true) (hC : P.cellsOf e = 2) (hi : P.underlying ti = some (.int .i64)) (e0 : f0.type = ti) (e1 : f1.type = ti)
    (h : DataW.trod enc P W base spare held fuel t [v] = some y) :
    ∃ (a : Option Addr) (len cap : Nat) (X Y : Nat → Int), v = .slice a len cap ∧ len ≤ maxLen ∧ (a = none → len = 0) ∧ (0 < len → ∃ b off, a = some ⟨b, off, none⟩ ∧ b < W.heap.size ∧
      ∀ i, i < len → W.cell? ⟨b, off + i * 2, none⟩ = some (.int .i64 (X i)) ∧ W.cell? ⟨b, off + (i * 2 + 1), none⟩ = some (.int .i64 (Y i)) ∧ (Lit.int .i64 (X i)).wf = true ∧ (Lit.int .i64 (Y i)).wf = true) := by
  rcases open_slice ht h with ⟨h1, _⟩ | ⟨a', len, cap, m, n, D, Pl, h1, hb, hl, hm, hmm, _, hx⟩
  · simp at h1
    subst h1
    exact ⟨none, 0, 0, fun _ => 0, fun _ => 0, rfl, Nat.zero_le _, fun _ => rfl, fun h => absurd h (by omega)⟩
  · simp at h1
    subst h1
    have hlm : len ≤ m := by rw [hmm]; split <;> omega
    have key : ∀ i, i < len → ∃ xy : Int × Int, W.cell? (a'.add (i * 2)) = some (.int .i64 xy.1) ∧ W.cell? (a'.add (i * 2 + 1)) = some (.int .i64 xy.2) ∧ (Lit.int .i64 xy.1).wf = true ∧ (Lit.int .i64 xy.2).wf = true := fun i hi' => by
      obtain ⟨cs', hc, ht'⟩ := hx i (by omega)
      rw [hC] at hc
      obtain ⟨_, hcl, hat⟩ := World.cells?_some hc
      match cs', hcl with
      | [c0, c1], _ =>
        obtain ⟨a0, a1, rfl, rfl, w0, w1⟩ := ints2_of hs hone hi e0 e1 ht'
        have q0 := hat 0 (by omega)
        have q1 := hat 1 (by omega)
        rw [Go.Deep.add_add] at q0 q1
        exact ⟨(a0, a1), by simpa using q0, by simpa using q1, w0, w1⟩
    have key2 : ∃ F : Nat → Int × Int, ∀ i, i < len → W.cell? (a'.add (i * 2)) = some (.int .i64 (F i).1) ∧ W.cell? (a'.add (i * 2 + 1)) = some (.int .i64 (F i).2) ∧ (Lit.int .i64 (F i).1).wf = true ∧ (Lit.int .i64 (F i).2).wf = true := by
      refine ⟨fun i => if h : i < len then Classical.choose (key i h) else (0, 0), fun i h => ?_⟩
      simp only [dif_pos h]
      exact Classical.choose_spec (key i h)
    obtain ⟨F, hF⟩ := key2
    refine ⟨some a', len, cap, fun i => (F i).1, fun i => (F i).2, rfl, by omega, (fun h => by cases h), fun hpos => ?_⟩
    obtain ⟨b, off, sp⟩ := a'
    obtain ⟨s1, s2⟩ := cell_spot (hF 0 hpos).1
    have hsp : sp = none := by
      unfold Addr.add at s1
      simpa using s1
    subst hsp
    simp only [add_plain] at hF s2
    exact ⟨b, off, rfl, s2, hF⟩


theorem arr3_of {t e : TypeId} {k : IntKind} {fuel : Nat} {c0 c1 c2 : Value} {y : DataW H × List MemPlace} (ht : P.underlying t = some (.array 3 e)) (he : P.underlying e = some (.int k)) (hE : P.cellsOf e = 1)
    (h : DataW.trod enc P W base spare held fuel t [c0, c1, c2] = some y) : ∃ a0 a1 a2 : Int, c0 = .int k a0 ∧ c1 = .int k a1 ∧ c2 = .int k a2 ∧ (Lit.int k a0).wf = true ∧ (Lit.int k a1).wf = true ∧ (Lit.int k a2).wf = true := by
  obtain ⟨xs, n, _, hx, _, hlen, hg⟩ := DataW.trod_array ht h
  match xs, hlen with
  | [y0, y1, y2], _ =>
    have h0 : DataW.trod enc P W base spare held n e [c0] = some y0 := by simpa [hE] using hg 0 (by omega)
    have h1 : DataW.trod enc P W base spare held n e [c1] = some y1 := by simpa [hE] using hg 1 (by omega)
    have h2 : DataW.trod enc P W base spare held n e [c2] = some y2 := by simpa [hE] using hg 2 (by omega)
    obtain ⟨a0, g0, rfl, w0⟩ := DataW.trod_int he h0
    obtain ⟨a1, g1, rfl, w1⟩ := DataW.trod_int he h1
    obtain ⟨a2, g2, rfl, w2⟩ := DataW.trod_int he h2
    simp at g0 g1 g2
    exact ⟨a0, a1, a2, g0, g1, g2, w0, w1, w2⟩
theorem open_shape {r : Reach} {t ta te ti ts tp : TypeId} {f0 f1 f2 f3 g0 g1 : Field} {v : Value} {d : DataW H} {p : List MemPlace} (ht : P.underlying t = some (.struct #[f0, f1, f2, f3])) (hC : P.cellsOf t = 6)
    (o0 : f0.offset = 0) (o1 : f1.offset = 3) (o2 : f2.offset = 4) (o3 : f3.offset = 5) (e0 : f0.type = ta) (e1 : f1.type = ti) (e2 : f2.type = ti) (e3 : f3.type = ts) (ca : P.cellsOf ta = 3) (ci : P.cellsOf ti = 1) (cs' : P.cellsOf ts = 1)
    (ha : P.underlying ta = some (.array 3 te)) (hte : P.underlying te = some (.int .u8)) (cte : P.cellsOf te = 1) (hi : P.underlying ti = some (.int .i64)) (hts : P.underlying ts = some (.slice tp)) (hs : P.underlying tp = some (.struct #[g0, g1])) (hone : oneCellFields P #[g0, g1] = true) (hCp : P.cellsOf tp = 2) (q0 : g0.type = ti) (q1 : g1.type = ti)
    (hv : Value.okWide P W r b0 t v) (h : DataW.Trod enc P W base spare held t v d p) :
    ∃ (n0 n1 n2 ah tl : Int) (a : Option Addr) (len cap : Nat) (X Y : Nat → Int), v = .agg #[.int .u8 n0, .int .u8 n1, .int .u8 n2, .int .i64 ah, .int .i64 tl, .slice a len cap] ∧ (Lit.int .u8 n0).wf = true ∧ (Lit.int .u8 n1).wf = true ∧ (Lit.int .u8 n2).wf = true ∧ (Lit.int .i64 ah).wf = true ∧ (Lit.int .i64 tl).wf = true ∧ len ≤ maxLen ∧ (a = none → len = 0) ∧ (0 < len → ∃ b off, a = some ⟨b, off, none⟩ ∧ b < W.heap.size ∧
      ∀ i, i < len → W.cell? ⟨b, off + i * 2, none⟩ = some (.int .i64 (X i)) ∧ W.cell? ⟨b, off + (i * 2 + 1), none⟩ = some (.int .i64 (Y i)) ∧ (Lit.int .i64 (X i)).wf = true ∧ (Lit.int .i64 (Y i)).wf = true) := by
  obtain ⟨cs, rfl, hsz⟩ := okWide_struct ht hv
  obtain ⟨l⟩ := cs
  match l, hsz.trans hC with
  | [c0, c1, c2, c3, c4, c5], _ =>
    obtain ⟨fuel, hf⟩ := h
    obtain ⟨xs, n, _, hx, _, hlen, hg⟩ := DataW.trod_struct ht hf
    match xs, hlen with
    | [y0, y1, y2, y3], _ =>
      have h0 : DataW.trod enc P W base spare held n f0.type [c0, c1, c2] = some y0 := by simpa [Value.cells, o0, e0, ca] using hg 0 f0 rfl
      have h1 : DataW.trod enc P W base spare held n f1.type [c3] = some y1 := by simpa [Value.cells, o1, e1, ci] using hg 1 f1 rfl
      have h2 : DataW.trod enc P W base spare held n f2.type [c4] = some y2 := by simpa [Value.cells, o2, e2, ci] using hg 2 f2 rfl
      have h3 : DataW.trod enc P W base spare held n f3.type [c5] = some y3 := by simpa [Value.cells, o3, e3, cs'] using hg 3 f3 rfl
      rw [e0] at h0
      rw [e1] at h1
      rw [e2] at h2
      rw [e3] at h3
      obtain ⟨n0, n1, n2, rfl, rfl, rfl, w0, w1, w2⟩ := arr3_of ha hte cte h0
      obtain ⟨ah, k3, _, w3⟩ := DataW.trod_int hi h1
      obtain ⟨tl, k4, _, w4⟩ := DataW.trod_int hi h2
      simp at k3 k4
      subst k3 k4
      obtain ⟨a, len, cap, X, Y, rfl, r1, r2, r3⟩ := pts_of hts hs hone hCp hi q0 q1 h3
      exact ⟨n0, n1, n2, ah, tl, a, len, cap, X, Y, rfl, w0, w1, w2, w3, w4, r1, r2, r3⟩
end
end Go.Proofs.Ytdcclpdnnhaeoaa
