/- A slice of steps: a byte, two small ints and a slice of points each. -/
import Derived.Test.YtdcclpdnnhaeoaaFrame4
import Derived.Test.YtdcclpdnnhaeoaaFrameB
namespace Go.Proofs.Ytdcclpdnnhaeoaa
open Go.ChangeShapes Go.WideShapes Go.ChangeAt Go.RowKit Go.Joins Go.Deep
theorem i16_range {a : Int} (h : (Lit.int .i16 a).wf = true) : -32768 ≤ a ∧ a ≤ 32767 := by
  simp [Lit.wf, IntKind.min, IntKind.max, IntKind.signed, IntKind.bits] at h
  omega
/-- a step -/
structure Stp where
  k : Int
  x : Int
  y : Int
  a : Option Addr
  n : Nat
  c : Nat
  X : Nat → Int
  Y : Nat → Int
/-- a step lies at an address -/
def StpAt (w : World) (p : Addr) (s : Stp) : Prop :=
  w.cell? (p.add 0) = some (.int .u8 s.k) ∧ w.cell? (p.add 1) = some (.int .i16 s.x) ∧ w.cell? (p.add 2) = some (.int .i16 s.y) ∧ w.cell? (p.add 3) = some (.slice s.a s.n s.c) ∧
  0 ≤ s.k ∧ s.k ≤ 255 ∧ -32768 ≤ s.x ∧ s.x ≤ 32767 ∧ -32768 ≤ s.y ∧ s.y ≤ 32767 ∧ s.n ≤ maxLen ∧
  (0 < s.n → ∃ b off, s.a = some ⟨b, off, none⟩ ∧ b < w.heap.size ∧ ∀ i, i < s.n → w.cell? ⟨b, off + i * 2, none⟩ = some (.int .i64 (s.X i)) ∧ w.cell? ⟨b, off + i * 2 + 1, none⟩ = some (.int .i64 (s.Y i)))
section
variable {H : Type} {enc : TypeId × Value → H} {P : Program} {W : World} {base : Nat} {spare : Nat → Bool} {held : Bool}
theorem open_steps {r : Reach} {b0 : Nat} {t e tb ti th ts tp : TypeId} {f0 f1 f2 f3 g0 g1 : Field} {v : Value} {d : DataW H} {p : List MemPlace} (ht : P.underlying t = some (.slice e)) (he : P.underlying e = some (.struct #[f0, f1, f2, f3])) (hC : P.cellsOf e = 4)
    (o0 : f0.offset = 0) (o1 : f1.offset = 1) (o2 : f2.offset = 2) (o3 : f3.offset = 3) (e0 : f0.type = tb) (e1 : f1.type = th) (e2 : f2.type = th) (e3 : f3.type = ts) (cb : P.cellsOf tb = 1) (ch : P.cellsOf th = 1) (cs : P.cellsOf ts = 1)
    (htb : P.underlying tb = some (.int .u8)) (hth : P.underlying th = some (.int .i16)) (hi : P.underlying ti = some (.int .i64)) (hts : P.underlying ts = some (.slice tp)) (hs : P.underlying tp = some (.struct #[g0, g1])) (hone : oneCellFields P #[g0, g1] = true) (hCp : P.cellsOf tp = 2) (q0 : g0.type = ti) (q1 : g1.type = ti)
    (hv : Value.okWide P W r b0 t v) (h : DataW.Trod enc P W base spare held t v d p) :
    ∃ (a : Option Addr) (len cap : Nat) (F : Nat → Stp), v = .slice a len cap ∧ len ≤ maxLen ∧ (0 < len → ∃ b off, a = some ⟨b, off, none⟩ ∧ b < W.heap.size ∧ ∀ i, i < len → StpAt W ⟨b, off + i * 4, none⟩ (F i)) := by
  obtain ⟨a, len, cap, rfl⟩ := okWide_slice ht hv
  obtain ⟨fuel, hf⟩ := h
  rcases open_slice ht (by simpa [Value.cells] using hf) with ⟨h1, _⟩ | ⟨a', len', cap', m, n, D, Pl, h1, hb, hl, hm, hmm, _, hx⟩
  · simp at h1
    obtain ⟨rfl, rfl, rfl⟩ := h1
    exact ⟨none, 0, 0, fun _ => ⟨0, 0, 0, none, 0, 0, fun _ => 0, fun _ => 0⟩, rfl, Nat.zero_le _, fun h => absurd h (by omega)⟩
  · simp at h1
    obtain ⟨rfl, rfl, rfl⟩ := h1
    have hlm : len ≤ m := by rw [hmm]; split <;> omega
    have key : ∀ i, i < len → ∃ s : Stp, StpAt W (a'.add (i * 4)) s := fun i hi' => by
      obtain ⟨cs', hc, ht'⟩ := hx i (by omega)
      rw [hC] at hc
      obtain ⟨_, hcl, hat⟩ := World.cells?_some hc
      match cs', hcl with
      | [c0, c1, c2, c3], _ =>
        obtain ⟨xs, n', _, hx', _, hlen, hg⟩ := DataW.trod_struct he ht'
        match xs, hlen with
        | [y0, y1, y2, y3], _ =>
          have h0 : DataW.trod enc P W base spare held n' f0.type [c0] = some y0 := by simpa [Value.cells, o0, e0, cb] using hg 0 f0 rfl
          have h1 : DataW.trod enc P W base spare held n' f1.type [c1] = some y1 := by simpa [Value.cells, o1, e1, ch] using hg 1 f1 rfl
          have h2 : DataW.trod enc P W base spare held n' f2.type [c2] = some y2 := by simpa [Value.cells, o2, e2, ch] using hg 2 f2 rfl
          have h3 : DataW.trod enc P W base spare held n' f3.type [c3] = some y3 := by simpa [Value.cells, o3, e3, cs] using hg 3 f3 rfl
          rw [e0] at h0
          rw [e1] at h1
          rw [e2] at h2
          rw [e3] at h3
          obtain ⟨k, k0, _, w0⟩ := DataW.trod_int htb h0
          obtain ⟨x, k1, _, w1⟩ := DataW.trod_int hth h1
          obtain ⟨y, k2, _, w2⟩ := DataW.trod_int hth h2
          simp at k0 k1 k2
          subst k0 k1 k2
          obtain ⟨pa, pn, pc, X, Y, rfl, r1, r2, r3⟩ := pts_of hts hs hone hCp hi q0 q1 h3
          have z0 := hat 0 (by omega)
          have z1 := hat 1 (by omega)
          have z2 := hat 2 (by omega)
          have z3 := hat 3 (by omega)
          have v0 := u8_range w0
          have v1 := i16_range w1
          have v2 := i16_range w2
          refine ⟨⟨k, x, y, pa, pn, pc, X, Y⟩, by simpa using z0, by simpa using z1, by simpa using z2, by simpa using z3, v0.1, v0.2, v1.1, v1.2, v2.1, v2.2, r1, fun hp => ?_⟩
          obtain ⟨b, off, s1, s2, s3⟩ := r3 hp
          exact ⟨b, off, s1, s2, fun j hj => ⟨(s3 j hj).1, (s3 j hj).2.1⟩⟩
    have key2 : ∃ F : Nat → Stp, ∀ i, i < len → StpAt W (a'.add (i * 4)) (F i) := by
      refine ⟨fun i => if h : i < len then Classical.choose (key i h) else ⟨0, 0, 0, none, 0, 0, fun _ => 0, fun _ => 0⟩, fun i h => ?_⟩
      simp only [dif_pos h]
      exact Classical.choose_spec (key i h)
    obtain ⟨F, hF⟩ := key2
    refine ⟨some a', len, cap, F, rfl, by omega, fun hpos => ?_⟩
    obtain ⟨b, off, sp⟩ := a'
    have c0 := (hF 0 hpos).1
    rw [Go.Deep.add_add] at c0
    obtain ⟨s1, s2⟩ := cell_spot c0
    have hsp : sp = none := by
      unfold Addr.add at s1
      simpa using s1
    subst hsp
    simp only [add_plain] at hF s2
    exact ⟨b, off, rfl, s2, hF⟩
end
end Go.Proofs.Ytdcclpdnnhaeoaa
