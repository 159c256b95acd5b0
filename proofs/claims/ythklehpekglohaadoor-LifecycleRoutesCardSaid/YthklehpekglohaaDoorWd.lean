/- Walks: a transition of the machine. -/
import Derived.Test.YthklehpekglohaaDoorWc
import Derived.Deep.Cut
namespace Go.Proofs.YthklehpekglohaaDoor
open Go.RowKit
set_option linter.unusedVariables false
set_option linter.unusedSimpArgs false
theorem cells1_new {w : World} {g : Nat} (hg : w.heap.size = g) (c0 : Value) (t : TypeId) : ∀ (j : Nat) (u : Value), [c0][j]? = some u → (w.alloc (.cells #[c0] t)).cell? ((⟨g, 0, none⟩ : Addr).add j) = some u := by
  subst hg
  exact cell_one_new _ _ _
theorem block_ne {h g : Nat} (ne : g ≠ h) (n c : Nat) : (Value.slice (some ⟨h, 0, none⟩) n c).ownBlock ≠ some g := by
  intro e
  have e' : some h = some g := e
  injection e' with e'
  exact ne e'.symm
theorem frz_alloc {w : World} {b k : Nat} (o : Obj) (h : b < w.heap.size) : (w.alloc o).frozen? ⟨b, k, none⟩ = w.frozen? ⟨b, k, none⟩ := World.frozen?_of_block (by show (w.heap.push o)[b]? = _; rw [Array.getElem?_push_lt h]; simp [h])
theorem set_frz (w : World) (a p : Addr) (u : Value) : (w.setCell a u).frozen? p = w.frozen? p := by simp [go_sem]
theorem mc_after {w : World} {g g' cap' n : Nat} {S' f : Int} {u : Value} {L : List Int} {xs : List Value} (lt : g < w.heap.size) (hlt : g' < w.heap.size) (ne : g ≠ g') (e0 : w.cell? ⟨g, 0, none⟩ = some (.int .i64 S')) (e1 : w.cell? ⟨g, 1, none⟩ = some u) (e2 : w.cell? ⟨g, 2, none⟩ = some (.int .i64 f))
    (x0 : w.frozen? ⟨g, 0, none⟩ = false) (x1 : w.frozen? ⟨g, 1, none⟩ = false) (x2 : w.frozen? ⟨g, 2, none⟩ = false) (own : w.ownsRow g' 3 1 (.slice (some ⟨g', 0, none⟩) n cap') n xs) (hn : n = L.length) (hx : xs = ints L) :
    Mc (w.setCell ⟨g, 1, none⟩ (.slice (some ⟨g', 0, none⟩) n cap')) g g' cap' S' f L := by
  subst hn
  subst hx
  refine ⟨by rw [set_size]; exact lt, by rw [set_size]; exact hlt, ne, ?_, ?_, ?_, (set_frz _ _ _ _).trans x0, (set_frz _ _ _ _).trans x1, (set_frz _ _ _ _).trans x2, own_set own (block_ne ne _ _) _⟩ <;> go_simp
theorem Mc.failed {w : World} {g h cap : Nat} {s f : Int} {l : List Int} (m : Mc w g h cap s f l) (f' : Int) : Mc (w.setCell ⟨g, 2, none⟩ (.int .i64 f')) g h cap s f' l := by
  obtain ⟨lt, hlt, ne, c0, c1, c2, z0, z1, z2, own⟩ := m
  refine ⟨by rw [set_size]; exact lt, by rw [set_size]; exact hlt, ne, ?_, ?_, ?_, (set_frz _ _ _ _).trans z0, (set_frz _ _ _ _).trans z1, (set_frz _ _ _ _).trans z2, own_set own (block_ne ne _ _) _⟩ <;> go_simp
theorem Bx.grown {g h : Nat} {w w1 w2 : World} {o : Obj} {row : Option Nat} (x : Bx g h w w1) (hg : (w1.alloc o).grownBy w2 row) (hr : ∀ k, row = some k → k = h ∨ w.heap.size ≤ k) : Bx g h w w2 :=
  ⟨hg.os.trans x.os, hg.tape.trans x.tape, hg.output.trans x.output, Nat.le_trans x.size (by have := hg.size; rw [alloc_size] at this; omega), fun k hk e1 e2 => by
    have hs := x.size
    have hne : some k ≠ row := fun e => by rcases hr k e.symm with r | r <;> omega
    refine (hg.block k (by rw [alloc_size]; omega) hne).trans (Eq.trans ?_ (x.block k hk e1 e2))
    show (w1.heap.push o)[k]? = _
    rw [Array.getElem?_push_lt (by omega)]
    simp⟩
theorem do_err {g h cap : Nat} {s f : Int} {l : List Int} (t : Int) (ok : Bool) (w : World) (hR : Rules w) (m : Mc w g h cap s f l) (he : (nx s t ok).2 ≠ 0) : Calls Tryd.prog 15 #[.pointer (some ⟨g, 0, none⟩), .int .i64 t, .bool ok] w fun e w' => e = .returned (.int .i64 (nx s t ok).2) ∧ Below w.heap.size w w' := by
  have c0 := m.c0
  have HB := hid (next_any s t ok w hR)
  clear m hR
  generalize (nx s t ok).2 = E at *
  generalize (nx s t ok).1 = S' at *
  go_enter Tryd.func15, Tryd.ntmps15
  go_wp2_with (first
    | (go_at_call 23; (with_reducible refine (HB.out).mono ?_); rintro e w3 ⟨rfl, hb3⟩))
  go_ret
  exact ⟨rfl, hb3⟩
set_option maxHeartbeats 4000000 in
set_option maxRecDepth 100000 in
theorem do_short_true {g h cap : Nat} {s f : Int} {l : List Int} (t : Int) (w : World) (hR : Rules w) (m : Mc w g h cap s f l) (he : (nx s t true).2 = 0) (hl : l.length < 4096) (hf : 0 ≤ f) (hf' : f < 1000000) : Calls Tryd.prog 15 #[.pointer (some ⟨g, 0, none⟩), .int .i64 t, .bool true] w fun e w' => e = .returned (.int .i64 0) ∧ ∃ h' cap', Mc w' g h' cap' (nx s t true).1 f (l ++ [(nx s t true).1]) ∧ Bx g h w w' ∧ (h' = h ∨ w.heap.size ≤ h') := by
  obtain ⟨i0, hi, hz0, hz1, hz2⟩ := info_parts info3
  have HB := hid (next_any s t true w hR)
  rw [he] at HB
  generalize (nx s t true).1 = S' at *
  obtain ⟨lt, hlt, ne, c0, c1, c2, z0, z1, z2, own⟩ := m
  have HOWN := hid own
  clear own hR he
  have hlI : (l.length : Int) + 1 ≤ 4096 := by omega
  go_enter Tryd.func15, Tryd.ntmps15
  go_upto_region 6 with (first
    | (go_at_call 23; (with_reducible refine (HB.out).mono ?_); rintro e w3 ⟨rfl, hb3⟩; have hs3 := hb3.size
       have d1 : w3.cell? ⟨g, 1, none⟩ = some (.slice (some ⟨h, 0, none⟩) l.length cap) := (hb3.cell lt).trans c1
       have d2 : w3.cell? ⟨g, 2, none⟩ = some (.int .i64 f) := (hb3.cell lt).trans c2
       have d0 : w3.cell? ⟨g, 0, none⟩ = some (.int .i64 s) := (hb3.cell lt).trans c0
       have y0 : w3.frozen? ⟨g, 0, none⟩ = false := (hb3.frozen lt).trans z0
       have y1 : w3.frozen? ⟨g, 1, none⟩ = false := (hb3.frozen lt).trans z1
       have y2 : w3.frozen? ⟨g, 2, none⟩ = false := (hb3.frozen lt).trans z2
       have HOWN3 := hid (own_block HOWN.out (hb3.block h hlt))))
  clear c0 c1 c2 z0 z1 z2
  have HOWN5 : Hid (∀ o, ((w3.setCell ⟨g, 0, none⟩ (.int .i64 S')).alloc o).ownsRow h 3 1 (.slice (some ⟨h, 0, none⟩) l.length cap) l.length (ints l)) := hid (fun o => (own_set HOWN3.out (block_ne ne _ _) _).alloc o)
  have hz5 : (w3.setCell ⟨g, 0, none⟩ (.int .i64 S')).heap.size = w3.heap.size := set_size _ _ _
  have HS5 := hid hz5
  clear hz5
  go_upto_region 8 with (first
    | (at_builtin; go_loud (refine wpList_append_lies _ rfl _ _ 22 rfl h 3 i0 (.int .i64 0) 1 8 Tryd.underlying22 hi hz0 hz1 hz2 int_size (by decide) (.slice (some ⟨h, 0, none⟩) l.length cap) l.length (ints l) (by rfl) (HOWN5.out _) ⟨w3.heap.size, 0, none⟩ 1 1 [.int .i64 S'] (by rfl) rfl (cells1_new HS5.out _ _) (one1 _) (by decide) (by unfold maxLen; omega) (by omega) (by rw [alloc_size, HS5.out]; omega) (w3.heap.size + 1) (by rw [alloc_size, HS5.out]) ?_
                            intro g' cap' w4 hown4 hgrow4 hat4 hlt4
                            have HA4 := hid hat4
                            have HK : Hid (∀ k, w4.cell? ⟨g, k, none⟩ = (w3.setCell ⟨g, 0, none⟩ (.int .i64 S')).cell? ⟨g, k, none⟩ ∧ w4.frozen? ⟨g, k, none⟩ = w3.frozen? ⟨g, k, none⟩) := hid (fun k => ⟨grown_far hgrow4 (by rw [HS5.out]; omega) (block_ne ne _ _) k, (World.frozen?_of_block (hgrow4.block g (by rw [alloc_size, HS5.out]; omega) (Ne.symm (block_ne ne _ _)))).trans ((frz_alloc _ (by rw [HS5.out]; omega)).trans (set_frz _ _ _ _))⟩)
                            have HGB := hid hgrow4
                            clear hgrow4 hat4
                            have e0 : w4.cell? ⟨g, 0, none⟩ = some (.int .i64 S') := ((HK.out 0).1).trans (by go_simp)
                            have e1 : w4.cell? ⟨g, 1, none⟩ = some (.slice (some ⟨h, 0, none⟩) l.length cap) := ((HK.out 1).1).trans (by go_simp)
                            have e2 : w4.cell? ⟨g, 2, none⟩ = some (.int .i64 f) := ((HK.out 2).1).trans (by go_simp)
                            have x0 : w4.frozen? ⟨g, 0, none⟩ = false := ((HK.out 0).2).trans y0
                            have x1 : w4.frozen? ⟨g, 1, none⟩ = false := ((HK.out 1).2).trans y1
                            have x2 : w4.frozen? ⟨g, 2, none⟩ = false := ((HK.out 2).2).trans y2)))
  clear d0 d1 d2 y0 y1 y2
  go_wp2_with fail
  go_ret
  have hgg : g' = h ∨ w3.heap.size + 1 ≤ g' := by
    rcases HA4.out with e | e
    · have e' : some h = some g' := e
      injection e' with e'
      exact Or.inl e'.symm
    · exact Or.inr (by omega)
  have hge : h ≤ w3.heap.size := by omega
  have hne : g ≠ g' := by omega
  have lt4 : g < w4.heap.size := by
    have := HGB.out.size
    rw [alloc_size, HS5.out] at this
    omega
  have M := mc_after (L := l ++ [S']) lt4 hlt4 hne e0 e1 e2 x0 x1 x2 (own_base hown4 (Nat.le_refl _)) (by simp) (ints_app _ _).symm
  have B1 : Bx g h w w3 := Bx.of hb3
  have B2 : Bx g h w (w3.setCell ⟨g, 0, none⟩ (.int .i64 S')) := B1.set (p := ⟨g, 0, none⟩) (Or.inr (Or.inl rfl)) _
  have B3 : Bx g h w w4 := B2.grown HGB.out (fun k e => by have e' : some h = some k := e; injection e' with e'; omega)
  have B : Bx g h w (w4.setCell ⟨g, 1, none⟩ (.slice (some ⟨g', 0, none⟩) (l.length + 1) cap')) := B3.set (p := ⟨g, 1, none⟩) (Or.inr (Or.inl rfl)) _
  exact ⟨rfl, g', cap', M, B, by omega⟩
set_option maxHeartbeats 4000000 in
set_option maxRecDepth 100000 in
theorem do_short_false {g h cap : Nat} {s f : Int} {l : List Int} (t : Int) (w : World) (hR : Rules w) (m : Mc w g h cap s f l) (he : (nx s t false).2 = 0) (hl : l.length < 4096) (hf : 0 ≤ f) (hf' : f < 1000000) : Calls Tryd.prog 15 #[.pointer (some ⟨g, 0, none⟩), .int .i64 t, .bool false] w fun e w' => e = .returned (.int .i64 0) ∧ ∃ h' cap', Mc w' g h' cap' (nx s t false).1 (f + 1) (l ++ [(nx s t false).1]) ∧ Bx g h w w' ∧ (h' = h ∨ w.heap.size ≤ h') := by
  obtain ⟨i0, hi, hz0, hz1, hz2⟩ := info_parts info3
  have HB := hid (next_any s t false w hR)
  rw [he] at HB
  generalize (nx s t false).1 = S' at *
  obtain ⟨lt, hlt, ne, c0, c1, c2, z0, z1, z2, own⟩ := m
  have HOWN := hid own
  clear own hR he
  have hlI : (l.length : Int) + 1 ≤ 4096 := by omega
  go_enter Tryd.func15, Tryd.ntmps15
  go_upto_region 6 with (first
    | (go_at_call 23; (with_reducible refine (HB.out).mono ?_); rintro e w3 ⟨rfl, hb3⟩; have hs3 := hb3.size
       have d1 : w3.cell? ⟨g, 1, none⟩ = some (.slice (some ⟨h, 0, none⟩) l.length cap) := (hb3.cell lt).trans c1
       have d2 : w3.cell? ⟨g, 2, none⟩ = some (.int .i64 f) := (hb3.cell lt).trans c2
       have d0 : w3.cell? ⟨g, 0, none⟩ = some (.int .i64 s) := (hb3.cell lt).trans c0
       have y0 : w3.frozen? ⟨g, 0, none⟩ = false := (hb3.frozen lt).trans z0
       have y1 : w3.frozen? ⟨g, 1, none⟩ = false := (hb3.frozen lt).trans z1
       have y2 : w3.frozen? ⟨g, 2, none⟩ = false := (hb3.frozen lt).trans z2
       have HOWN3 := hid (own_block HOWN.out (hb3.block h hlt))))
  clear c0 c1 c2 z0 z1 z2
  have HOWN5 : Hid (∀ o, ((w3.setCell ⟨g, 0, none⟩ (.int .i64 S')).alloc o).ownsRow h 3 1 (.slice (some ⟨h, 0, none⟩) l.length cap) l.length (ints l)) := hid (fun o => (own_set HOWN3.out (block_ne ne _ _) _).alloc o)
  have hz5 : (w3.setCell ⟨g, 0, none⟩ (.int .i64 S')).heap.size = w3.heap.size := set_size _ _ _
  have HS5 := hid hz5
  clear hz5
  go_upto_region 8 with (first
    | (at_builtin; go_loud (refine wpList_append_lies _ rfl _ _ 22 rfl h 3 i0 (.int .i64 0) 1 8 Tryd.underlying22 hi hz0 hz1 hz2 int_size (by decide) (.slice (some ⟨h, 0, none⟩) l.length cap) l.length (ints l) (by rfl) (HOWN5.out _) ⟨w3.heap.size, 0, none⟩ 1 1 [.int .i64 S'] (by rfl) rfl (cells1_new HS5.out _ _) (one1 _) (by decide) (by unfold maxLen; omega) (by omega) (by rw [alloc_size, HS5.out]; omega) (w3.heap.size + 1) (by rw [alloc_size, HS5.out]) ?_
                            intro g' cap' w4 hown4 hgrow4 hat4 hlt4
                            have HA4 := hid hat4
                            have HK : Hid (∀ k, w4.cell? ⟨g, k, none⟩ = (w3.setCell ⟨g, 0, none⟩ (.int .i64 S')).cell? ⟨g, k, none⟩ ∧ w4.frozen? ⟨g, k, none⟩ = w3.frozen? ⟨g, k, none⟩) := hid (fun k => ⟨grown_far hgrow4 (by rw [HS5.out]; omega) (block_ne ne _ _) k, (World.frozen?_of_block (hgrow4.block g (by rw [alloc_size, HS5.out]; omega) (Ne.symm (block_ne ne _ _)))).trans ((frz_alloc _ (by rw [HS5.out]; omega)).trans (set_frz _ _ _ _))⟩)
                            have HGB := hid hgrow4
                            clear hgrow4 hat4
                            have e0 : w4.cell? ⟨g, 0, none⟩ = some (.int .i64 S') := ((HK.out 0).1).trans (by go_simp)
                            have e1 : w4.cell? ⟨g, 1, none⟩ = some (.slice (some ⟨h, 0, none⟩) l.length cap) := ((HK.out 1).1).trans (by go_simp)
                            have e2 : w4.cell? ⟨g, 2, none⟩ = some (.int .i64 f) := ((HK.out 2).1).trans (by go_simp)
                            have x0 : w4.frozen? ⟨g, 0, none⟩ = false := ((HK.out 0).2).trans y0
                            have x1 : w4.frozen? ⟨g, 1, none⟩ = false := ((HK.out 1).2).trans y1
                            have x2 : w4.frozen? ⟨g, 2, none⟩ = false := ((HK.out 2).2).trans y2)))
  clear d0 d1 d2 y0 y1 y2
  go_wp2_with fail
  go_ret
  have hgg : g' = h ∨ w3.heap.size + 1 ≤ g' := by
    rcases HA4.out with e | e
    · have e' : some h = some g' := e
      injection e' with e'
      exact Or.inl e'.symm
    · exact Or.inr (by omega)
  have hge : h ≤ w3.heap.size := by omega
  have hne : g ≠ g' := by omega
  have lt4 : g < w4.heap.size := by
    have := HGB.out.size
    rw [alloc_size, HS5.out] at this
    omega
  have M := mc_after (L := l ++ [S']) lt4 hlt4 hne e0 e1 e2 x0 x1 x2 (own_base hown4 (Nat.le_refl _)) (by simp) (ints_app _ _).symm
  have B1 : Bx g h w w3 := Bx.of hb3
  have B2 : Bx g h w (w3.setCell ⟨g, 0, none⟩ (.int .i64 S')) := B1.set (p := ⟨g, 0, none⟩) (Or.inr (Or.inl rfl)) _
  have B3 : Bx g h w w4 := B2.grown HGB.out (fun k e => by have e' : some h = some k := e; injection e' with e'; omega)
  have B : Bx g h w (w4.setCell ⟨g, 1, none⟩ (.slice (some ⟨g', 0, none⟩) (l.length + 1) cap')) := B3.set (p := ⟨g, 1, none⟩) (Or.inr (Or.inl rfl)) _
  exact ⟨rfl, g', cap', (by have := M.failed (f + 1); go_num), B.set (p := ⟨g, 2, none⟩) (Or.inr (Or.inl rfl)) _, by omega⟩
end Go.Proofs.YthklehpekglohaaDoor
