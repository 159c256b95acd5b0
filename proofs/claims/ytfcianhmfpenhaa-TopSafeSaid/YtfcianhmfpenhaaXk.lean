/- Memory: limits, a motion and points in blocks; Limit where nobody is known, and where a stop is demanded. -/
import Derived.Test.YtfcianhmfpenhaaXj
import Derived.Test.YtfcianhmfpenhaaPl
namespace Go.Proofs.Ytfcianhmfpenhaa
open Go.RowKit Go.Maps
set_option linter.unusedVariables false
set_option linter.unusedSimpArgs false
theorem setF (w : World) (a p : Addr) (u : Value) : (w.setCell a u).frozen? p = w.frozen? p := by simp [go_sem]
/-- limits in a block -/
structure Lm (w : World) (g : Nat) (S A B H M : Int) : Prop where
  lt : g < w.heap.size
  c0 : w.cell? ⟨g, 0, none⟩ = some (.int .i64 S)
  c1 : w.cell? ⟨g, 1, none⟩ = some (.int .i64 A)
  c2 : w.cell? ⟨g, 2, none⟩ = some (.int .i64 B)
  c3 : w.cell? ⟨g, 3, none⟩ = some (.int .i64 H)
  c4 : w.cell? ⟨g, 4, none⟩ = some (.int .i64 M)
theorem Lm.keep {w w' : World} {g : Nat} {S A B H M : Int} (h : Lm w g S A B H M) (hs : w.heap.size ≤ w'.heap.size) (hb : w'.heap[g]? = w.heap[g]?) : Lm w' g S A B H M :=
  ⟨Nat.lt_of_lt_of_le h.lt hs, (World.cell?_of_block hb).trans h.c0, (World.cell?_of_block hb).trans h.c1, (World.cell?_of_block hb).trans h.c2, (World.cell?_of_block hb).trans h.c3, (World.cell?_of_block hb).trans h.c4⟩
/-- a motion in a block -/
structure Mm (w : World) (g : Nat) (px py vx vy : Int) : Prop where
  lt : g < w.heap.size
  c0 : w.cell? ⟨g, 0, none⟩ = some (.int .i64 px)
  c1 : w.cell? ⟨g, 1, none⟩ = some (.int .i64 py)
  c2 : w.cell? ⟨g, 2, none⟩ = some (.int .i64 vx)
  c3 : w.cell? ⟨g, 3, none⟩ = some (.int .i64 vy)
  f0 : w.frozen? ⟨g, 0, none⟩ = false
  f1 : w.frozen? ⟨g, 1, none⟩ = false
  f2 : w.frozen? ⟨g, 2, none⟩ = false
  f3 : w.frozen? ⟨g, 3, none⟩ = false
theorem Mm.keep {w w' : World} {g : Nat} {px py vx vy : Int} (h : Mm w g px py vx vy) (hs : w.heap.size ≤ w'.heap.size) (hb : w'.heap[g]? = w.heap[g]?) : Mm w' g px py vx vy :=
  ⟨Nat.lt_of_lt_of_le h.lt hs, (World.cell?_of_block hb).trans h.c0, (World.cell?_of_block hb).trans h.c1, (World.cell?_of_block hb).trans h.c2, (World.cell?_of_block hb).trans h.c3, (World.frozen?_of_block hb).trans h.f0, (World.frozen?_of_block hb).trans h.f1, (World.frozen?_of_block hb).trans h.f2, (World.frozen?_of_block hb).trans h.f3⟩
abbrev set4 (w : World) (g : Nat) (a b c d : Int) : World := (((w.setCell ⟨g, 0, none⟩ (.int .i64 a)).setCell ⟨g, 1, none⟩ (.int .i64 b)).setCell ⟨g, 2, none⟩ (.int .i64 c)).setCell ⟨g, 3, none⟩ (.int .i64 d)
theorem set4_sz (w : World) (g : Nat) (a b c d : Int) : (set4 w g a b c d).heap.size = w.heap.size := by simp [World.setCell]
theorem set4_heap {w : World} {g b : Nat} (h : b ≠ g) (u0 u1 u2 u3 : Int) : (set4 w g u0 u1 u2 u3).heap[b]? = w.heap[b]? := by
  unfold set4
  rw [Below.heap_setCell _ _ _ _ h, Below.heap_setCell _ _ _ _ h, Below.heap_setCell _ _ _ _ h, Below.heap_setCell _ _ _ _ h]
theorem Mm.set {w : World} {g : Nat} {px py vx vy : Int} (h : Mm w g px py vx vy) (a b c d : Int) : Mm (set4 w g a b c d) g a b c d := by
  obtain ⟨lt, h0, h1, h2, h3, k0, k1, k2, k3⟩ := h
  refine ⟨by rw [set4_sz]; exact lt, ?_, ?_, ?_, ?_, by unfold set4; rw [setF, setF, setF, setF]; exact k0, by unfold set4; rw [setF, setF, setF, setF]; exact k1, by unfold set4; rw [setF, setF, setF, setF]; exact k2, by unfold set4; rw [setF, setF, setF, setF]; exact k3⟩ <;> (unfold set4; go_simp)
/-- two cells in a block of the call's own -/
structure Fb (w : World) (g : Nat) (x y : Int) : Prop where
  lt : g < w.heap.size
  c0 : w.cell? ⟨g, 0, none⟩ = some (.int .i64 x)
  c1 : w.cell? ⟨g, 1, none⟩ = some (.int .i64 y)
  f0 : w.frozen? ⟨g, 0, none⟩ = false
  f1 : w.frozen? ⟨g, 1, none⟩ = false
theorem Fb.keep {w w' : World} {g : Nat} {x y : Int} (h : Fb w g x y) (hs : w.heap.size ≤ w'.heap.size) (hb : w'.heap[g]? = w.heap[g]?) : Fb w' g x y :=
  ⟨Nat.lt_of_lt_of_le h.lt hs, (World.cell?_of_block hb).trans h.c0, (World.cell?_of_block hb).trans h.c1, (World.frozen?_of_block hb).trans h.f0, (World.frozen?_of_block hb).trans h.f1⟩
theorem Fb.new (w : World) (x y : Int) : Fb (w.alloc (.cells #[.int .i64 x, .int .i64 y] 35)) w.heap.size x y := by
  constructor <;> first | (go_simp <;> simp; done) | simp
theorem Fb.below {w w' : World} {g : Nat} {x y : Int} (h : Fb w g x y) (hb : Below w.heap.size w w') : Fb w' g x y := h.keep hb.size (hb.block g h.lt)
theorem Fb.drew {w : World} {g : Nat} {x y : Int} (h : Fb w g x y) : Fb w.drew g x y := h.below (Below.drew (Below.refl _ _))
theorem Fb.grown {w w' : World} {g s : Nat} {x y : Int} (h : Fb w g x y) (hg : w.grownBy w' (some s)) (hne : g ≠ s) : Fb w' g x y := h.keep hg.size (hg.block g h.lt (fun e => hne (by simpa using e)))
theorem Fb.set {w : World} {g : Nat} {x y : Int} (h : Fb w g x y) (a b : Int) : Fb ((w.setCell ⟨g, 0, none⟩ (.int .i64 a)).setCell ⟨g, 1, none⟩ (.int .i64 b)) g a b := by
  obtain ⟨lt, h0, h1, k0, k1⟩ := h
  refine ⟨by rw [set_sz, set_sz]; exact lt, ?_, ?_, by rw [setF, setF]; exact k0, by rw [setF, setF]; exact k1⟩ <;> go_simp
theorem grefl {r : Option Nat} (w : World) : w.grownBy w r := ⟨rfl, rfl, rfl, Nat.le_refl _, fun _ _ _ => rfl⟩
theorem gtrans {a b c : World} {r : Option Nat} (h : a.grownBy b r) (k : b.grownBy c r) : a.grownBy c r :=
  ⟨k.os.trans h.os, k.tape.trans h.tape, k.output.trans h.output, Nat.le_trans h.size k.size, fun i hi hne => (k.block i (Nat.lt_of_lt_of_le hi h.size) hne).trans (h.block i hi hne)⟩
theorem gdrew {a w : World} {r : Option Nat} (h : a.grownBy w r) : a.grownBy w.drew r := ⟨h.os, h.tape, h.output, h.size, h.block⟩
theorem galloc {a w : World} {r : Option Nat} (h : a.grownBy w r) (o : Obj) : a.grownBy (w.alloc o) r := gtrans h (World.grownBy_alloc w o r)
theorem gbelow {a w w' : World} {r : Option Nat} (h : a.grownBy w r) (hb : Below w.heap.size w w') : a.grownBy w' r := gtrans h ⟨hb.os, hb.tape, hb.output, hb.size, fun k hk _ => hb.block k hk⟩
theorem now_none (t : Int) : Now t (fun _ => 0) (fun _ => 0) (fun _ => none) := fun _ => Or.inl rfl
/-- Limit where nobody is known and no stop is demanded -/
theorem limit_alone {sb pb mb : Nat} {S A B H M kp al md : Int} (t px py vx vy wx wy : Int) (t1 : 0 ≤ t) (t2 : t ≤ 1099511627776) (hk : 0 ≤ kp) (hal : 0 ≤ al) (hal2 : al ≤ t) (hal3 : t - al ≤ kp) (ev : vld px py vx vy S A B H M = true) (hd : demB md = false) (w : World) (S0 : Hid (Sup w sb pb S A B H M kp al md)) (P0 : Hid (Per w pb mb H kp 0 (fun _ => none))) :
    Calls Try.prog 11 #[.pointer (some ⟨sb, 0, none⟩), .int .i64 t, mo px py vx vy, pt wx wy] w fun e w' => ∃ rx ry md', e = .returned (pt rx ry) ∧ Sup w' sb pb S A B H M kp al md' ∧ demB md' = false ∧ w.grownBy w' (some sb) ∧ sqr rx ry ≤ S * S := by
  obtain ⟨s1, s2, a1, a2, b1, b2, v1, v2, v3, v4, hv⟩ := vld_facts ev
  have hsp := stp_speed (wx := wx) (wy := wy) (S := S) (A := A) (by omega) (by omega) v1 v2 v3 v4 hv
  refine (limit_free t px py vx vy wx wy S ev (by omega) s2 hd w S0 (hid (fun w' hb => ceil_none t px py (fun _ => 0) (fun _ => 0) t1 t2 hk hal hal2 hal3 hd w' (hid (S0.out.below hb)) (by omega) (hid (P0.out.below hb)) (hid (now_none t))))).mono ?_
  rintro e w' ⟨rx, ry, md', rfl, hS, hg, h⟩
  rcases h with ⟨_, _, rfl, h⟩ | ⟨_, _, _, h⟩
  · exact ⟨rx, ry, 1, rfl, hS, by decide, hg, h⟩
  · exact absurd h (by omega)
/-- Limit where a stop is demanded: the speed falls -/
theorem limit_stop {sb pb : Nat} {S A B H M kp al md : Int} (t px py vx vy wx wy L : Int) (t1 : 0 ≤ t) (t2 : t ≤ 1099511627776) (ev : vld px py vx vy S A B H M = true) (hd : demB md = true) (hL : 0 ≤ L) (hL2 : L ≤ 4096) (hv : sqr vx vy ≤ L * L) (w : World) (S0 : Hid (Sup w sb pb S A B H M kp al md)) :
    Calls Try.prog 11 #[.pointer (some ⟨sb, 0, none⟩), .int .i64 t, mo px py vx vy, pt wx wy] w fun e w' => ∃ rx ry md', e = .returned (pt rx ry) ∧ Sup w' sb pb S A B H M kp al md' ∧ demB md' = true ∧ w.grownBy w' (some sb) ∧ sqr rx ry ≤ max 0 (L - B) * max 0 (L - B) ∧ (md' = md ∨ md' = 4) ∧ ((rx = 0 ∧ ry = 0) → (vx = 0 ∧ vy = 0) → md' = 4) := by
  obtain ⟨s1, s2, a1, a2, b1, b2, _⟩ := vld_facts ev
  refine (limit_dem t px py vx vy wx wy t1 t2 ev hd w S0).mono ?_
  rintro e w' ⟨rx, ry, md', rfl, hS, hg, h, h4, h5⟩
  have hd' : demB md' = true := by
    rcases h4 with rfl | rfl
    · exact hd
    · decide
  refine ⟨rx, ry, md', rfl, hS, hd', hg, ?_, h4, h5⟩
  rcases h with ⟨rfl, rfl⟩ | ⟨rfl, rfl⟩
  · have := sq_self_nonneg (max 0 (L - B))
    show sqr 0 0 ≤ _
    have e : sqr 0 0 = 0 := by decide
    omega
  · exact brk_bound (by omega) hL hL2 hv
end Go.Proofs.Ytfcianhmfpenhaa
