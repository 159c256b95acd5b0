/- Plain and memory: what Next does. -/
import Derived.Test.YtdcclpdnnhaeoaaWh
namespace Go.Proofs.Ytdcclpdnnhaeoaa
open Go.RowKit
set_option linter.unusedVariables false
/-- all old blocks but one are as they were -/
structure Bex (g : Nat) (w w' : World) : Prop where
  os : w'.os = w.os
  tape : w'.tape = w.tape
  output : w'.output = w.output
  size : w.heap.size ≤ w'.heap.size
  block : ∀ k, k < w.heap.size → k ≠ g → w'.heap[k]? = w.heap[k]?
theorem Bex.refl (g : Nat) (w : World) : Bex g w w := ⟨rfl, rfl, rfl, Nat.le_refl _, fun _ _ _ => rfl⟩
theorem Bex.trans {g : Nat} {a b c : World} (h : Bex g a b) (k : Bex g b c) : Bex g a c :=
  ⟨k.os.trans h.os, k.tape.trans h.tape, k.output.trans h.output, Nat.le_trans h.size k.size, fun i hi hg => (k.block i (Nat.lt_of_lt_of_le hi h.size) hg).trans (h.block i hi hg)⟩
theorem Bex.of {g : Nat} {w w' : World} (h : Below w.heap.size w w') : Bex g w w' := ⟨h.os, h.tape, h.output, h.size, fun k hk _ => h.block k hk⟩
theorem Bex.cell {g : Nat} {w w' : World} (h : Bex g w w') {b o : Nat} (hb : b < w.heap.size) (hg : b ≠ g) : w'.cell? ⟨b, o, none⟩ = w.cell? ⟨b, o, none⟩ := World.cell?_of_block (h.block b hb hg)
theorem Bex.frz {g : Nat} {w w' : World} (h : Bex g w w') {b o : Nat} (hb : b < w.heap.size) (hg : b ≠ g) : w'.frozen? ⟨b, o, none⟩ = w.frozen? ⟨b, o, none⟩ := World.frozen?_of_block (h.block b hb hg)
theorem set_size (w : World) (p : Addr) (u : Value) : (w.setCell p u).heap.size = w.heap.size := by simp [World.setCell]
theorem Bex.set {g : Nat} {w w' : World} (h : Bex g w w') {p : Addr} (hp : w.heap.size ≤ p.block ∨ p.block = g) (u : Value) : Bex g w (w'.setCell p u) :=
  ⟨h.os, h.tape, h.output, by rw [set_size]; exact h.size, fun k hk hg => (Below.heap_setCell _ _ _ _ (by omega)).trans (h.block k hk hg)⟩
theorem Bex.below {g B : Nat} {w0 w w' : World} (h0 : Below B w0 w) (h : Bex g w w') (hB : B ≤ g) (hw : B ≤ w.heap.size) : Below B w0 w' :=
  ⟨h.os.trans h0.os, h.tape.trans h0.tape, h.output.trans h0.output, Nat.le_trans h0.size h.size, fun k hk => (h.block k (by omega) (by omega)).trans (h0.block k hk)⟩
theorem Trk.prog {w : World} {g : Nat} {v : Value} {S A B H M ah tl pr ax ay : Int} {ai : Bool} (h : Trk w g v S A B H M ah tl pr ax ay ai) (q : Int) : Trk (w.setCell ⟨g, 8, none⟩ (.int .i64 q)) g v S A B H M ah tl q ax ay ai := by
  obtain ⟨lt, c0, c1, c2, c3, c4, c5, c6, c7, c8, c9, c10, c11, f0, f8, f9, f10, f11⟩ := h
  constructor
  · simpa [World.setCell] using lt
  all_goals go_simp
theorem Trk.aim {w : World} {g : Nat} {v : Value} {S A B H M ah tl pr ax ay : Int} {ai : Bool} (h : Trk w g v S A B H M ah tl pr ax ay ai) (x y : Int) : Trk ((w.setCell ⟨g, 9, none⟩ (.int .i64 x)).setCell ⟨g, 10, none⟩ (.int .i64 y)) g v S A B H M ah tl pr x y ai := by
  obtain ⟨lt, c0, c1, c2, c3, c4, c5, c6, c7, c8, c9, c10, c11, f0, f8, f9, f10, f11⟩ := h
  constructor
  · simpa [World.setCell] using lt
  all_goals go_simp
theorem Trk.on {w : World} {g : Nat} {v : Value} {S A B H M ah tl pr ax ay : Int} {ai : Bool} (h : Trk w g v S A B H M ah tl pr ax ay ai) (b : Bool) : Trk (w.setCell ⟨g, 11, none⟩ (.bool b)) g v S A B H M ah tl pr ax ay b := by
  obtain ⟨lt, c0, c1, c2, c3, c4, c5, c6, c7, c8, c9, c10, c11, f0, f8, f9, f10, f11⟩ := h
  constructor
  · simpa [World.setCell] using lt
  all_goals go_simp
theorem Trk.far {w : World} {g : Nat} {v : Value} {S A B H M ah tl pr ax ay : Int} {ai : Bool} (h : Trk w g v S A B H M ah tl pr ax ay ai) {p : Addr} (hp : g ≠ p.block) (u : Value) : Trk (w.setCell p u) g v S A B H M ah tl pr ax ay ai where
  lt := by simpa [World.setCell] using h.lt
  c0 := (World.cell?_of_block (Below.heap_setCell _ _ _ _ hp)).trans h.c0
  c1 := (World.cell?_of_block (Below.heap_setCell _ _ _ _ hp)).trans h.c1
  c2 := (World.cell?_of_block (Below.heap_setCell _ _ _ _ hp)).trans h.c2
  c3 := (World.cell?_of_block (Below.heap_setCell _ _ _ _ hp)).trans h.c3
  c4 := (World.cell?_of_block (Below.heap_setCell _ _ _ _ hp)).trans h.c4
  c5 := (World.cell?_of_block (Below.heap_setCell _ _ _ _ hp)).trans h.c5
  c6 := (World.cell?_of_block (Below.heap_setCell _ _ _ _ hp)).trans h.c6
  c7 := (World.cell?_of_block (Below.heap_setCell _ _ _ _ hp)).trans h.c7
  c8 := (World.cell?_of_block (Below.heap_setCell _ _ _ _ hp)).trans h.c8
  c9 := (World.cell?_of_block (Below.heap_setCell _ _ _ _ hp)).trans h.c9
  c10 := (World.cell?_of_block (Below.heap_setCell _ _ _ _ hp)).trans h.c10
  c11 := (World.cell?_of_block (Below.heap_setCell _ _ _ _ hp)).trans h.c11
  f0 := (World.frozen?_of_block (Below.heap_setCell _ _ _ _ hp)).trans h.f0
  f8 := (World.frozen?_of_block (Below.heap_setCell _ _ _ _ hp)).trans h.f8
  f9 := (World.frozen?_of_block (Below.heap_setCell _ _ _ _ hp)).trans h.f9
  f10 := (World.frozen?_of_block (Below.heap_setCell _ _ _ _ hp)).trans h.f10
  f11 := (World.frozen?_of_block (Below.heap_setCell _ _ _ _ hp)).trans h.f11
/-- the way to a waypoint -/
def dst (px py : Int) (X Y : Nat → Int) (i : Nat) : Int := isq (sqr (px - X i) (py - Y i))
/-- how far the progress goes -/
def adv (px py : Int) (X Y : Nat → Int) (len : Nat) (ah : Int) : Nat → Nat → Nat
  | 0, j => j
  | n + 1, j => if j + 1 < len ∧ dst px py X Y (j + 1) ≤ ah then adv px py X Y len ah n (j + 1) else j
theorem adv_go {px py ah : Int} {X Y : Nat → Int} {len j : Nat} (h1 : j + 1 < len) (h2 : dst px py X Y (j + 1) ≤ ah) : adv px py X Y len ah (len - j) j = adv px py X Y len ah (len - (j + 1)) (j + 1) := by
  rw [show len - j = (len - (j + 1)) + 1 from by omega]
  exact if_pos ⟨h1, h2⟩
theorem adv_stop {px py ah : Int} {X Y : Nat → Int} {len j : Nat} (h : ¬ (j + 1 < len ∧ dst px py X Y (j + 1) ≤ ah)) : ∀ n, adv px py X Y len ah n j = j
  | 0 => rfl
  | n + 1 => if_neg h
theorem adv_lt {px py ah : Int} {X Y : Nat → Int} {len : Nat} : ∀ (n j : Nat), j < len → j ≤ adv px py X Y len ah n j ∧ adv px py X Y len ah n j < len
  | 0, j, h => ⟨Nat.le_refl _, h⟩
  | n + 1, j, h => by
    unfold adv
    split
    · rename_i h'
      have := adv_lt (px := px) (py := py) (ah := ah) (X := X) (Y := Y) (len := len) n (j + 1) h'.1
      omega
    · omega
theorem sqr_bnd {a b : Int} (h1 : -2097152 ≤ a) (h2 : a ≤ 2097152) (h3 : -2097152 ≤ b) (h4 : b ≤ 2097152) : sqr a b ≤ 9223372036854775807 := by
  have p1 : 0 ≤ (2097152 - a) * (2097152 + a) := Int.mul_nonneg (by omega) (by omega)
  have p2 : 0 ≤ (2097152 - b) * (2097152 + b) := Int.mul_nonneg (by omega) (by omega)
  have e1 : (2097152 - a) * (2097152 + a) = 4398046511104 - a * a := by grind
  have e2 : (2097152 - b) * (2097152 + b) = 4398046511104 - b * b := by grind
  unfold sqr
  omega
theorem dst_bnd {px py : Int} {X Y : Nat → Int} {i : Nat} (h1 : -1048576 ≤ px) (h2 : px ≤ 1048576) (h3 : -1048576 ≤ py) (h4 : py ≤ 1048576) (hr : rchB (X i) (Y i) = true) : 0 ≤ dst px py X Y i ∧ dst px py X Y i ≤ 3037000499 := by
  obtain ⟨a1, a2, a3, a4⟩ := rchB_true hr
  exact isq_le (sqr_bnd (by omega) (by omega) (by omega) (by omega))
theorem dst_call {px py : Int} {X Y : Nat → Int} {i : Nat} (h1 : -1048576 ≤ px) (h2 : px ≤ 1048576) (h3 : -1048576 ≤ py) (h4 : py ≤ 1048576) (hr : rchB (X i) (Y i) = true) (w : World) : Calls Try.prog 30 #[pt px py, pt (X i) (Y i)] w fun e w' => e = .returned (.int .i64 (dst px py X Y i)) ∧ Below w.heap.size w w' := by
  obtain ⟨a1, a2, a3, a4⟩ := rchB_true hr
  exact dist_any px py (X i) (Y i) (by omega) (by omega) (by omega) (by omega) (by omega) (by omega) (by omega) (by omega) w
theorem rdst_call {px py : Int} {X Y : Nat → Int} {i : Nat} (h1 : -1048576 ≤ px) (h2 : px ≤ 1048576) (h3 : -1048576 ≤ py) (h4 : py ≤ 1048576) (hr : rchB (X i) (Y i) = true) (w : World) : Calls Try.prog 36 #[pt px py, pt (X i) (Y i)] w fun e w' => e = .returned (.int .i64 (dst px py X Y i)) ∧ Below w.heap.size w w' := by
  obtain ⟨a1, a2, a3, a4⟩ := rchB_true hr
  exact rdist_any px py (X i) (Y i) (by omega) (by omega) (by omega) (by omega) (by omega) (by omega) (by omega) (by omega) w
end Go.Proofs.Ytdcclpdnnhaeoaa
