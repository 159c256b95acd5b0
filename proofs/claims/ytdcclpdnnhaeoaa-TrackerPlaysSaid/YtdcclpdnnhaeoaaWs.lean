/- TrackerReaches: a tick of the walk, in terms of the plain law. -/
import Derived.Test.YtdcclpdnnhaeoaaRea
namespace Go.Proofs.Ytdcclpdnnhaeoaa
open Go.RowKit
set_option linter.unusedVariables false
set_option linter.unusedSimpArgs false
theorem Trk.keep {w w' : World} {g : Nat} {v : Value} {S A B H M ah tl pr ax ay : Int} {ai : Bool} (h : Trk w g v S A B H M ah tl pr ax ay ai) (hs : w.heap.size ≤ w'.heap.size) (hb : w'.heap[g]? = w.heap[g]?) : Trk w' g v S A B H M ah tl pr ax ay ai where
  lt := Nat.lt_of_lt_of_le h.lt hs
  c0 := (World.cell?_of_block hb).trans h.c0
  c1 := (World.cell?_of_block hb).trans h.c1
  c2 := (World.cell?_of_block hb).trans h.c2
  c3 := (World.cell?_of_block hb).trans h.c3
  c4 := (World.cell?_of_block hb).trans h.c4
  c5 := (World.cell?_of_block hb).trans h.c5
  c6 := (World.cell?_of_block hb).trans h.c6
  c7 := (World.cell?_of_block hb).trans h.c7
  c8 := (World.cell?_of_block hb).trans h.c8
  c9 := (World.cell?_of_block hb).trans h.c9
  c10 := (World.cell?_of_block hb).trans h.c10
  c11 := (World.cell?_of_block hb).trans h.c11
  f0 := (World.frozen?_of_block hb).trans h.f0
  f8 := (World.frozen?_of_block hb).trans h.f8
  f9 := (World.frozen?_of_block hb).trans h.f9
  f10 := (World.frozen?_of_block hb).trans h.f10
  f11 := (World.frozen?_of_block hb).trans h.f11
/-- a tracker of points along an axis -/
structure TS (w : World) (g g2 len cap : Nat) (U V : Int) (Q : Nat → Int) (S A B : Int) (pr : Nat) : Prop where
  trk : ∃ ax ay ai, Trk w g (.slice (some ⟨g2, 0, none⟩) len cap) S A B 0 0 S 0 pr ax ay ai
  lt2 : g2 < w.heap.size
  ne : g2 ≠ g
  pts : ∀ i, i < len → w.cell? ⟨g2, i * 2, none⟩ = some (.int .i64 (U * Q i)) ∧ w.cell? ⟨g2, i * 2 + 1, none⟩ = some (.int .i64 (V * Q i))
theorem TS.keep {w w' : World} {g g2 len cap pr : Nat} {U V S A B : Int} {Q : Nat → Int} (h : TS w g g2 len cap U V Q S A B pr) (hs : w.heap.size ≤ w'.heap.size) (hg : w'.heap[g]? = w.heap[g]?) (hg2 : w'.heap[g2]? = w.heap[g2]?) : TS w' g g2 len cap U V Q S A B pr := by
  obtain ⟨⟨ax, ay, ai, t⟩, l, n, p⟩ := h
  exact ⟨⟨ax, ay, ai, t.keep hs hg⟩, Nat.lt_of_lt_of_le l hs, n, fun i hi => ⟨(World.cell?_of_block hg2).trans (p i hi).1, (World.cell?_of_block hg2).trans (p i hi).2⟩⟩
theorem TS.glt {w : World} {g g2 len cap pr : Nat} {U V S A B : Int} {Q : Nat → Int} (h : TS w g g2 len cap U V Q S A B pr) : g < w.heap.size := by
  obtain ⟨⟨_, _, _, t⟩, _⟩ := h
  exact t.lt
theorem TS.below {w w' : World} {g g2 len cap pr : Nat} {U V S A B : Int} {Q : Nat → Int} (h : TS w g g2 len cap U V Q S A B pr) (hb : Below w.heap.size w w') : TS w' g g2 len cap U V Q S A B pr := h.keep hb.size (hb.block _ h.glt) (hb.block _ h.lt2)
theorem TS.set {w : World} {g g2 len cap pr : Nat} {U V S A B : Int} {Q : Nat → Int} (h : TS w g g2 len cap U V Q S A B pr) {b o : Nat} (h1 : g ≠ b) (h2 : g2 ≠ b) (u : Value) : TS (w.setCell ⟨b, o, none⟩ u) g g2 len cap U V Q S A B pr :=
  h.keep (by simp [World.setCell]) (Below.heap_setCell _ _ _ _ h1) (Below.heap_setCell _ _ _ _ h2)
theorem reach_of {U V W : Int} {Q : Nat → Int} {len : Nat} (hax : Axis U V) (hW : W ≤ 100000) (hQ : ∀ i, i < len → 0 ≤ Q i ∧ Q i ≤ W) : ∀ i, i < len → rchB ((fun i => U * Q i) i) ((fun i => V * Q i) i) = true := fun i hi => by
  obtain ⟨q1, q2⟩ := hQ i hi
  obtain ⟨a1, a2, a3, a4⟩ := ax_abs hax q1
  unfold rchB
  rw [inB_mk (by dsimp only; omega) (by dsimp only; omega), inB_mk (by dsimp only; omega) (by dsimp only; omega)]
  rfl
theorem reach_goal {g g2 len cap pr : Nat} {U V S A B W p c : Int} {Q : Nat → Int} (hax : Axis U V) (hW : W ≤ 100000) (hlen : 0 < len) (hlm : len ≤ 31) (hlast : Q (len - 1) = W) (hQ : ∀ i, i < len → 0 ≤ Q i ∧ Q i ≤ W) (hm : ∀ i j, i ≤ j → j < len → Q i ≤ Q j) (s1 : 1 ≤ S) (s2 : S ≤ 4096) (b1 : 1 ≤ B) (b2 : B ≤ 4096)
    (w : World) (T : TS w g g2 len cap U V Q S A B pr) (G : Go1 W S B Q len pr p c) (hp : p = W) :
    Calls Try.prog 16 #[.pointer (some ⟨g, 0, none⟩), mo (U * p) (V * p) (U * c) (V * c)] w fun e w' => e = .returned (.tuple #[pt 0 0, .bool true]) ∧ Bex g w w' := by
  obtain ⟨⟨ax, ay, ai, t⟩, l, n, P⟩ := T
  have hp0 := G.p0
  have hpl := G.pl
  obtain ⟨a1, a2, a3, a4⟩ := ax_abs hax hp0
  have hd : dst (U * p) (V * p) (fun i => U * Q i) (fun i => V * Q i) (len - 1) = 0 := by
    unfold dst
    rw [ax_dist hax (by rw [hlast]; omega) (by rw [hlast]; omega), hlast]
    omega
  exact (next_goal g g2 len cap pr (U * p) (V * p) (U * c) (V * c) (fun i => U * Q i) (fun i => V * Q i) S A B 0 0 S 0 ax ay ai hlen (by omega) hpl (hid (reach_of hax hW hQ)) (by omega) (by omega) (by omega) (by omega) s1 s2 b1 b2 n w (hid t) l (hid P) _ (hid rfl) 0 (len - 1) (by omega) (hid hd) (Int.le_refl _)).mono fun e w' h => ⟨h.1, h.2.2⟩
theorem reach_on {g g2 len cap pr : Nat} {U V S A B W p c : Int} {Q : Nat → Int} (hax : Axis U V) (hW : W ≤ 100000) (hlen : 0 < len) (hlm : len ≤ 31) (hlast : Q (len - 1) = W) (hQ : ∀ i, i < len → 0 ≤ Q i ∧ Q i ≤ W) (hm : ∀ i j, i ≤ j → j < len → Q i ≤ Q j) (s1 : 1 ≤ S) (s2 : S ≤ 4096) (b1 : 1 ≤ B) (b2 : B ≤ 4096) (hBA : B ≤ A)
    (w : World) (T : TS w g g2 len cap U V Q S A B pr) (G : Go1 W S B Q len pr p c) (hp : p < W) :
    Calls Try.prog 16 #[.pointer (some ⟨g, 0, none⟩), mo (U * p) (V * p) (U * c) (V * c)] w fun e w' => e = .returned (.tuple #[pt (U * min S (spd (W - p) B)) (V * min S (spd (W - p) B)), .bool false]) ∧ Bex g w w' ∧
      ∃ J, TS w' g g2 len cap U V Q S A B J ∧ Go1 W S B Q len J (p + nsp c (min S (spd (W - p) B)) A) (nsp c (min S (spd (W - p) B)) A) ∧ 1 ≤ nsp c (min S (spd (W - p) B)) A := by
  obtain ⟨⟨ax, ay, ai, t⟩, l, n, P⟩ := T
  have hp0 := G.p0
  have hpl := G.pl
  obtain ⟨a1, a2, a3, a4⟩ := ax_abs hax hp0
  have hd : dst (U * p) (V * p) (fun i => U * Q i) (fun i => V * Q i) (len - 1) = W - p := by
    unfold dst
    rw [ax_dist hax (by rw [hlast]; omega) (by rw [hlast]; omega), hlast]
    omega
  obtain ⟨hJ, hJq⟩ := go_adv hax hW hQ (S := S) hp0 (by omega) (len - pr) pr hpl (by omega) G.nx hm
  generalize hJe : adv (U * p) (V * p) (fun i => U * Q i) (fun i => V * Q i) len S (len - pr) pr = J at *
  have hka : ((min (J + 1) (len - 1) : Nat) : Int) = min ((J : Int) + 1) ((len : Int) - 1) := by omega
  obtain ⟨e1, e2⟩ := go_want hax hW hlen hlast hQ hp0 hp b1 s1 s2 hJ hJq hka
  have H := next_on g g2 len cap pr (U * p) (V * p) (U * c) (V * c) (fun i => U * Q i) (fun i => V * Q i) S A B 0 0 S 0 ax ay ai hlen (by omega) hpl (hid (reach_of hax hW hQ)) (by omega) (by omega) (by omega) (by omega) s1 s2 b1 b2 n w (hid t) l (hid P) J (hid hJe) (W - p) (len - 1) (by omega) (hid hd) (by omega) _ hka
  rw [e1, e2] at H
  refine H.mono fun e w' h => ⟨h.1, h.2.2, J, ?_, go_tick G hp b1 hBA s1 hJ hJq⟩
  have hb := h.2.2.block g2 l n
  exact ⟨⟨_, _, _, h.2.1⟩, Nat.lt_of_lt_of_le l h.2.2.size, n, fun i hi => ⟨(World.cell?_of_block hb).trans (P i hi).1, (World.cell?_of_block hb).trans (P i hi).2⟩⟩
theorem reach_step {len pr : Nat} {U V S A B W p c l : Int} {Q : Nat → Int} (hax : Axis U V) (hW : W ≤ 100000) (hc : chk S A B 0 0 = true) (G : Go1 W S B Q len pr p c) (l0 : 0 ≤ l) (l1 : l ≤ S) (G' : 0 ≤ p + nsp c l A ∧ p + nsp c l A ≤ W) (w : World) :
    Calls Try.prog 23 #[mo (U * p) (V * p) (U * c) (V * c), pt (U * l) (V * l), lim S A B 0 0] w fun e w' => e = .returned (mo (U * (p + nsp c l A)) (V * (p + nsp c l A)) (U * nsp c l A) (V * nsp c l A)) ∧ Below w.heap.size w w' := by
  obtain ⟨s1, s2, a1, a2, _⟩ := chk_true hc
  have hp0 := G.p0
  have hp1 := G.p1
  have hc0 := G.c0
  have hc1 := G.c1
  obtain ⟨x1, x2, x3, x4⟩ := ax_abs hax hp0
  obtain ⟨y1, y2, y3, y4⟩ := ax_abs hax G'.1
  have hv : vld (U * p) (V * p) (U * c) (V * c) S A B 0 0 = true := vld_of hc (by omega) (by omega) (by omega) (by omega) (by rw [ax_sqr hax]; exact sq_le hc0 hc1)
  obtain ⟨e1, e2⟩ := ax_step hax hc0 hc1 l0 l1 s2 (A := A) (by omega)
  have H := step_yes (U * p) (V * p) (U * c) (V * c) (U * l) (V * l) S A B 0 0 hv w
  rw [e1, e2, ← Int.mul_add, ← Int.mul_add, clp_id (by omega) (by omega), clp_id (by omega) (by omega)] at H
  exact H
theorem go_start {W S B : Int} {Q : Nat → Int} {len : Nat} (hlen : 0 < len) (hW : 0 ≤ W) (hS : 0 ≤ S) (hb : 1 ≤ B) (hQ : ∀ i, i < len → 0 ≤ Q i ∧ Q i ≤ W) : Go1 W S B Q len 0 0 0 :=
  ⟨Int.le_refl _, hW, Int.le_refl _, hS, by rw [show max ((0 : Int) - B) 0 = 0 from by omega, way_zero hb]; omega, hlen, fun i _ hi => (hQ i hi).1⟩
theorem pchk_ok {U V W : Int} {Q : Nat → Int} {len : Nat} (hax : Axis U V) (hW : W ≤ 100000) (hlen : 0 < len) (hlm : len ≤ 31) (hQ : ∀ i, i < len → 0 ≤ Q i ∧ Q i ≤ W) : pchk len (fun i => U * Q i) (fun i => V * Q i) = 0 := by
  have hr := reach_of hax hW hQ
  have : ∀ n, n ≤ len → inAll (fun i => U * Q i) (fun i => V * Q i) n = true := by
    intro n
    induction n with
    | zero => intro _; rfl
    | succ n ih =>
      intro h
      show (inAll _ _ n && rchB _ _) = true
      rw [ih (by omega), hr n (by omega)]
      rfl
  unfold pchk
  rw [if_neg (by omega), if_neg (by omega), this len (Nat.le_refl _)]
  rfl
end Go.Proofs.Ytdcclpdnnhaeoaa
