/- Walks: the machine: New, Do, State, Failures, History. -/
import Derived.Test.YthklehpekglohaaDoorWb
import Derived.Deep.RegionHeld3
import Derived.Deep.DrawnRows
namespace Go.Proofs.YthklehpekglohaaDoor
open Go.RowKit
set_option linter.unusedVariables false
set_option linter.unusedSimpArgs false
/-- all old blocks but two as before -/
structure Bx (g h : Nat) (w w' : World) : Prop where
  os : w'.os = w.os
  tape : w'.tape = w.tape
  output : w'.output = w.output
  size : w.heap.size ≤ w'.heap.size
  block : ∀ k, k < w.heap.size → k ≠ g → k ≠ h → w'.heap[k]? = w.heap[k]?
theorem Bx.refl (g h : Nat) (w : World) : Bx g h w w := ⟨rfl, rfl, rfl, Nat.le_refl _, fun _ _ _ _ => rfl⟩
theorem Bx.trans {g h h' : Nat} {a b c : World} (x : Bx g h a b) (k : Bx g h' b c) (hh : h' = h ∨ a.heap.size ≤ h') : Bx g h a c :=
  ⟨k.os.trans x.os, k.tape.trans x.tape, k.output.trans x.output, Nat.le_trans x.size k.size, fun i hi hg hi2 => (k.block i (Nat.lt_of_lt_of_le hi x.size) hg (by omega)).trans (x.block i hi hg hi2)⟩
theorem Bx.of {g h : Nat} {w w' : World} (x : Below w.heap.size w w') : Bx g h w w' := ⟨x.os, x.tape, x.output, x.size, fun k hk _ _ => x.block k hk⟩
theorem Bx.cell {g h : Nat} {w w' : World} (x : Bx g h w w') {b o : Nat} (hb : b < w.heap.size) (hg : b ≠ g) (hh : b ≠ h) : w'.cell? ⟨b, o, none⟩ = w.cell? ⟨b, o, none⟩ := World.cell?_of_block (x.block b hb hg hh)
theorem Bx.frz {g h : Nat} {w w' : World} (x : Bx g h w w') {b o : Nat} (hb : b < w.heap.size) (hg : b ≠ g) (hh : b ≠ h) : w'.frozen? ⟨b, o, none⟩ = w.frozen? ⟨b, o, none⟩ := World.frozen?_of_block (x.block b hb hg hh)
theorem set_size (w : World) (p : Addr) (u : Value) : (w.setCell p u).heap.size = w.heap.size := by simp [World.setCell]
theorem Bx.set {g h : Nat} {w w' : World} (x : Bx g h w w') {p : Addr} (hp : w.heap.size ≤ p.block ∨ p.block = g ∨ p.block = h) (u : Value) : Bx g h w (w'.setCell p u) :=
  ⟨x.os, x.tape, x.output, by rw [set_size]; exact x.size, fun k hk hg hh => (Below.heap_setCell _ _ _ _ (by omega)).trans (x.block k hk hg hh)⟩
theorem Bx.below {g h B : Nat} {w0 w w' : World} (h0 : Below B w0 w) (x : Bx g h w w') (hB : B ≤ g) (hH : B ≤ h) (hw : B ≤ w.heap.size) : Below B w0 w' :=
  ⟨x.os.trans h0.os, x.tape.trans h0.tape, x.output.trans h0.output, Nat.le_trans h0.size x.size, fun k hk => (x.block k (by omega) (by omega) (by omega)).trans (h0.block k hk)⟩
theorem own_block {w w' : World} {base n : Nat} {h cap : Nat} {xs : List Value} (x : w.ownsRow base 3 1 (.slice (some ⟨h, 0, none⟩) n cap) n xs) (hb : w'.heap[h]? = w.heap[h]?) : w'.ownsRow base 3 1 (.slice (some ⟨h, 0, none⟩) n cap) n xs := by
  obtain ⟨h1, h2⟩ := x
  refine ⟨h1, ?_⟩
  rcases h2 with ⟨h2, -⟩ | ⟨g, c, cur, hv, hg, hh, r⟩
  · injection h2 with h2; cases h2
  · injection hv with e1 e2 e3
    injection e1 with e1
    injection e1 with e1
    subst e1
    exact Or.inr ⟨h, c, cur, by rw [e3], hg, hb.trans hh, r⟩
theorem own_base {w : World} {base base' n : Nat} {h cap : Nat} {xs : List Value} (x : w.ownsRow base 3 1 (.slice (some ⟨h, 0, none⟩) n cap) n xs) (hb : base' ≤ h) : w.ownsRow base' 3 1 (.slice (some ⟨h, 0, none⟩) n cap) n xs := by
  obtain ⟨h1, h2⟩ := x
  refine ⟨h1, ?_⟩
  rcases h2 with ⟨h2, -⟩ | ⟨g, c, cur, hv, hg, hh, r⟩
  · injection h2 with h2; cases h2
  · injection hv with e1 e2 e3
    injection e1 with e1
    injection e1 with e1
    subst e1
    exact Or.inr ⟨h, c, cur, by rw [e3], hb, hh, r⟩
/-- the program's machine in memory -/
structure Mc (w : World) (g h cap : Nat) (s f : Int) (l : List Int) : Prop where
  lt : g < w.heap.size
  hlt : h < w.heap.size
  ne : g ≠ h
  c0 : w.cell? ⟨g, 0, none⟩ = some (.int .i64 s)
  c1 : w.cell? ⟨g, 1, none⟩ = some (.slice (some ⟨h, 0, none⟩) l.length cap)
  c2 : w.cell? ⟨g, 2, none⟩ = some (.int .i64 f)
  z0 : w.frozen? ⟨g, 0, none⟩ = false
  z1 : w.frozen? ⟨g, 1, none⟩ = false
  z2 : w.frozen? ⟨g, 2, none⟩ = false
  own : w.ownsRow h 3 1 (.slice (some ⟨h, 0, none⟩) l.length cap) l.length (ints l)
theorem Mc.of {w w' : World} {g h cap : Nat} {s f : Int} {l : List Int} (m : Mc w g h cap s f l) (hs : w.heap.size ≤ w'.heap.size) (hg : w'.heap[g]? = w.heap[g]?) (hh : w'.heap[h]? = w.heap[h]?) : Mc w' g h cap s f l :=
  ⟨Nat.lt_of_lt_of_le m.lt hs, Nat.lt_of_lt_of_le m.hlt hs, m.ne, (World.cell?_of_block hg).trans m.c0, (World.cell?_of_block hg).trans m.c1, (World.cell?_of_block hg).trans m.c2, (World.frozen?_of_block hg).trans m.z0, (World.frozen?_of_block hg).trans m.z1, (World.frozen?_of_block hg).trans m.z2, own_block m.own hh⟩
theorem Mc.below {w w' : World} {g h cap : Nat} {s f : Int} {l : List Int} (m : Mc w g h cap s f l) (hb : Below w.heap.size w w') : Mc w' g h cap s f l := m.of hb.size (hb.block _ m.lt) (hb.block _ m.hlt)
theorem Mc.bx {w w' : World} {g h cap g2 h2 : Nat} {s f : Int} {l : List Int} (m : Mc w g h cap s f l) (x : Bx g2 h2 w w') (e1 : g ≠ g2) (e2 : g ≠ h2) (e3 : h ≠ g2) (e4 : h ≠ h2) : Mc w' g h cap s f l := m.of x.size (x.block _ m.lt e1 e2) (x.block _ m.hlt e3 e4)
theorem Mc.rd {w : World} {g h cap : Nat} {s f : Int} {l : List Int} (m : Mc w g h cap s f l) (hm : l.length ≤ maxLen) : RdI w (.slice (some ⟨h, 0, none⟩) l.length cap) l := rdI_own m.own hm
/-- the reference's machine in memory -/
structure Mr (w : World) (g h cap : Nat) (f : Int) (l : List Int) : Prop where
  lt : g < w.heap.size
  hlt : h < w.heap.size
  ne : g ≠ h
  c0 : w.cell? ⟨g, 0, none⟩ = some (.slice (some ⟨h, 0, none⟩) l.length cap)
  c1 : w.cell? ⟨g, 1, none⟩ = some (.int .i64 f)
  z0 : w.frozen? ⟨g, 0, none⟩ = false
  z1 : w.frozen? ⟨g, 1, none⟩ = false
  own : w.ownsRow h 3 1 (.slice (some ⟨h, 0, none⟩) l.length cap) l.length (ints l)
theorem Mr.of {w w' : World} {g h cap : Nat} {f : Int} {l : List Int} (m : Mr w g h cap f l) (hs : w.heap.size ≤ w'.heap.size) (hg : w'.heap[g]? = w.heap[g]?) (hh : w'.heap[h]? = w.heap[h]?) : Mr w' g h cap f l :=
  ⟨Nat.lt_of_lt_of_le m.lt hs, Nat.lt_of_lt_of_le m.hlt hs, m.ne, (World.cell?_of_block hg).trans m.c0, (World.cell?_of_block hg).trans m.c1, (World.frozen?_of_block hg).trans m.z0, (World.frozen?_of_block hg).trans m.z1, own_block m.own hh⟩
theorem Mr.below {w w' : World} {g h cap : Nat} {f : Int} {l : List Int} (m : Mr w g h cap f l) (hb : Below w.heap.size w w') : Mr w' g h cap f l := m.of hb.size (hb.block _ m.lt) (hb.block _ m.hlt)
theorem Mr.bx {w w' : World} {g h cap g2 h2 : Nat} {f : Int} {l : List Int} (m : Mr w g h cap f l) (x : Bx g2 h2 w w') (e1 : g ≠ g2) (e2 : g ≠ h2) (e3 : h ≠ g2) (e4 : h ≠ h2) : Mr w' g h cap f l := m.of x.size (x.block _ m.lt e1 e2) (x.block _ m.hlt e3 e4)
theorem new_own (w : World) (o2 : Obj) (fz : Nat × Nat) (hf : fz = (0, 0) := by rfl) : ((w.alloc (.cells #[.int .i64 1] 3 fz)).alloc o2).ownsRow w.heap.size 3 1 (.slice (some ⟨w.heap.size, 0, none⟩) ([1] : List Int).length 1) ([1] : List Int).length (ints [1]) := by
  subst hf
  refine ⟨rfl, .inr ⟨w.heap.size, 1, #[.int .i64 1], rfl, Nat.le_refl _, ?_, Nat.le_refl _, by decide, rfl, rfl⟩⟩
  show ((w.heap.push _).push _)[w.heap.size]? = _
  rw [Array.getElem?_push_lt (by simp)]
  simp
theorem new_any (w : World) : Calls Tryd.prog 13 #[] w fun e w' => ∃ g h, e = .returned (.pointer (some ⟨g, 0, none⟩)) ∧ w.heap.size ≤ g ∧ w.heap.size ≤ h ∧ Mc w' g h 1 1 0 [1] ∧ Below w.heap.size w w' := by
  go_enter Tryd.func13, Tryd.ntmps13
  go_wp2_with fail
  go_ret
  refine ⟨w.heap.size + 1, w.heap.size, rfl, by omega, by omega, ?_, ?_⟩
  · refine ⟨by simp, by simp <;> omega, by omega, ?_, ?_, ?_, ?_, ?_, ?_, new_own w _ _⟩
    all_goals (go_simp <;> simp)
  · exact ((Below.refl _ _).alloc (Nat.le_refl _) _).alloc (by simp) _
theorem state_any {g h cap : Nat} {s f : Int} {l : List Int} (w : World) (m : Mc w g h cap s f l) : Calls Tryd.prog 17 #[.pointer (some ⟨g, 0, none⟩)] w fun e w' => e = .returned (.int .i64 s) ∧ w = w' := by
  have c0 := m.c0
  clear m
  go_enter Tryd.func17, Tryd.ntmps17
  go_wp2_with fail
  go_ret
  exact ⟨rfl, rfl⟩
theorem fail_any {g h cap : Nat} {s f : Int} {l : List Int} (w : World) (m : Mc w g h cap s f l) : Calls Tryd.prog 19 #[.pointer (some ⟨g, 0, none⟩)] w fun e w' => e = .returned (.int .i64 f) ∧ w = w' := by
  have c0 := m.c2
  clear m
  go_enter Tryd.func19, Tryd.ntmps19
  go_wp2_with fail
  go_ret
  exact ⟨rfl, rfl⟩
theorem rfail_any {g h cap : Nat} {f : Int} {l : List Int} (w : World) (m : Mr w g h cap f l) : Calls Tryd.prog 20 #[.pointer (some ⟨g, 0, none⟩)] w fun e w' => e = .returned (.int .i64 f) ∧ w = w' := by
  have c0 := m.c1
  clear m
  go_enter Tryd.func20, Tryd.ntmps20
  go_wp2_with fail
  go_ret
  exact ⟨rfl, rfl⟩
theorem rnew_any (w : World) : Calls Tryd.prog 14 #[] w fun e w' => ∃ g h, e = .returned (.pointer (some ⟨g, 0, none⟩)) ∧ w.heap.size ≤ g ∧ w.heap.size ≤ h ∧ Mr w' g h 1 0 [1] ∧ Below w.heap.size w w' := by
  go_enter Tryd.func14, Tryd.ntmps14
  go_wp2_with fail
  go_ret
  refine ⟨w.heap.size + 1, w.heap.size, rfl, by omega, by omega, ?_, ?_⟩
  · refine ⟨by simp, by simp <;> omega, by omega, ?_, ?_, ?_, ?_, new_own w _ _⟩
    all_goals (go_simp <;> simp)
  · exact ((Below.refl _ _).alloc (Nat.le_refl _) _).alloc (by simp) _
end Go.Proofs.YthklehpekglohaaDoor
