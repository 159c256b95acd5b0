/- Walks: the reference's machine: State, Do, History. -/
import Derived.Test.YthklehpekglohaaDoorWj
namespace Go.Proofs.YthklehpekglohaaDoor
open Go.RowKit
set_option linter.unusedVariables false
set_option linter.unusedSimpArgs false
theorem mr_after {w : World} {g g' cap' n : Nat} {f : Int} {u : Value} {L : List Int} {xs : List Value} (lt : g < w.heap.size) (hlt : g' < w.heap.size) (ne : g ≠ g') (e0 : w.cell? ⟨g, 0, none⟩ = some u) (e1 : w.cell? ⟨g, 1, none⟩ = some (.int .i64 f))
    (x0 : w.frozen? ⟨g, 0, none⟩ = false) (x1 : w.frozen? ⟨g, 1, none⟩ = false) (own : w.ownsRow g' 3 1 (.slice (some ⟨g', 0, none⟩) n cap') n xs) (hn : n = L.length) (hx : xs = ints L) :
    Mr (w.setCell ⟨g, 0, none⟩ (.slice (some ⟨g', 0, none⟩) n cap')) g g' cap' f L := by
  subst hn
  subst hx
  refine ⟨by rw [set_size]; exact lt, by rw [set_size]; exact hlt, ne, ?_, ?_, (set_frz _ _ _ _).trans x0, (set_frz _ _ _ _).trans x1, own_set own (block_ne ne _ _) _⟩ <;> go_simp
theorem Mr.failed {w : World} {g h cap : Nat} {f : Int} {l : List Int} (m : Mr w g h cap f l) (f' : Int) : Mr (w.setCell ⟨g, 1, none⟩ (.int .i64 f')) g h cap f' l := by
  obtain ⟨lt, hlt, ne, c0, c1, z0, z1, own⟩ := m
  refine ⟨by rw [set_size]; exact lt, by rw [set_size]; exact hlt, ne, ?_, ?_, (set_frz _ _ _ _).trans z0, (set_frz _ _ _ _).trans z1, own_set own (block_ne ne _ _) _⟩ <;> go_simp
set_option maxHeartbeats 4000000 in
theorem rstate_any {g h cap : Nat} {f s : Int} {pre : List Int} (w : World) (m : Mr w g h cap f (pre ++ [s])) (hl : pre.length ≤ 100000) : Calls Tryd.prog 18 #[.pointer (some ⟨g, 0, none⟩)] w fun e w' => e = .returned (.int .i64 s) ∧ Below w.heap.size w w' := by
  have c0 := m.c0
  have lt := m.lt
  have hlt := m.hlt
  have cs : w.cell? ⟨h, pre.length, none⟩ = some (.int .i64 s) := (m.own.cellAt pre.length (by simp)).trans (ints_get (by simp))
  rw [List.length_append] at c0
  clear m
  have r0 : ∀ (z : Later w), z.val.cell? ⟨g, 0, none⟩ = some (.slice (some ⟨h, 0, none⟩) (pre.length + 1) cap) := fun z => (z.cell lt).trans c0
  have r1 : ∀ (z : Later w), z.val.cell? ⟨h, pre.length, none⟩ = some (.int .i64 s) := fun z => (z.cell hlt).trans cs
  clear c0 cs
  have hI0 : (0 : Int) ≤ (pre.length : Int) := by omega
  have hI1 : (pre.length : Int) ≤ 100000 := by omega
  go_enter Tryd.func18, Tryd.ntmps18
  go_wp2_with fail
  refine wp_region_later (w0 := w) (Below.refl _ _) (by kernel_rfl) (by kernel_rfl) ?_
  repeat (go_big_quiet_step (fail))
  refine wpQuiet_nil ?_
  intro _ hw'
  obtain ⟨y, hw''⟩ := hw'
  subst hw''
  go_wp2_with fail
  go_ret
  exact ⟨rfl, y.ok⟩
set_option maxHeartbeats 4000000 in
theorem rdo_err {g h cap : Nat} {f s : Int} {pre : List Int} (t : Int) (ok : Bool) (w : World) (m : Mr w g h cap f (pre ++ [s])) (hl : pre.length ≤ 100000) (he : (nx s t ok).2 ≠ 0) : Calls Tryd.prog 16 #[.pointer (some ⟨g, 0, none⟩), .int .i64 t, .bool ok] w fun e w' => e = .returned (.int .i64 (nx s t ok).2) ∧ Below w.heap.size w w' := by
  have HS := hid (rstate_any w m hl)
  have HN := hid (fun w => rnext_any s t ok w)
  clear m
  generalize (nx s t ok).2 = E at *
  generalize (nx s t ok).1 = S' at *
  go_enter Tryd.func16, Tryd.ntmps16
  go_wp2_with (first
    | (go_at_call 18; (with_reducible refine (HS.out).mono ?_); rintro e w3 ⟨rfl, hb3⟩)
    | (go_at_call 24; (with_reducible refine (HN.out _).mono ?_); rintro e w4 ⟨rfl, rfl⟩))
  go_ret
  exact ⟨rfl, hb3⟩
set_option maxHeartbeats 4000000 in
set_option maxRecDepth 100000 in
theorem rdo_true {g h cap : Nat} {s f : Int} {pre : List Int} (t : Int) (w : World) (m : Mr w g h cap f (pre ++ [s])) (he : (nx s t true).2 = 0) (hl : pre.length < 100000) (hf : 0 ≤ f) (hf' : f < 1000000) : Calls Tryd.prog 16 #[.pointer (some ⟨g, 0, none⟩), .int .i64 t, .bool true] w fun e w' => e = .returned (.int .i64 0) ∧ ∃ h' cap', Mr w' g h' cap' f (pre ++ [s] ++ [(nx s t true).1]) ∧ Bx g h w w' ∧ (h' = h ∨ w.heap.size ≤ h') := by
  obtain ⟨i0, hi, hz0, hz1, hz2⟩ := info_parts info3
  have HS := hid (rstate_any w m (by omega))
  have HN := hid (fun w => rnext_any s t true w)
  rw [he] at HN
  generalize (nx s t true).1 = S' at *
  obtain ⟨lt, hlt, ne, c0, c1, z0, z1, own⟩ := m
  have HOWN := hid own
  have hlen : (pre ++ [s]).length = pre.length + 1 := by simp
  rw [hlen] at c0
  clear own he
  have hlI : (pre.length : Int) + 1 ≤ 100000 := by omega
  go_enter Tryd.func16, Tryd.ntmps16
  go_upto_region 4 with (first
    | (go_at_call 18; (with_reducible refine (HS.out).mono ?_); rintro e w3 ⟨rfl, hb3⟩; have hs3 := hb3.size
       have d0 : w3.cell? ⟨g, 0, none⟩ = some (.slice (some ⟨h, 0, none⟩) (pre.length + 1) cap) := (hb3.cell lt).trans c0
       have d1 : w3.cell? ⟨g, 1, none⟩ = some (.int .i64 f) := (hb3.cell lt).trans c1
       have y0 : w3.frozen? ⟨g, 0, none⟩ = false := (hb3.frozen lt).trans z0
       have y1 : w3.frozen? ⟨g, 1, none⟩ = false := (hb3.frozen lt).trans z1
       have hown3 := own_block HOWN.out (hb3.block h hlt)
       rw [hlen] at hown3
       have HOWN3 := hid hown3
       clear hown3)
    | (go_at_call 24; (with_reducible refine (HN.out _).mono ?_); rintro e w4 ⟨rfl, rfl⟩))
  clear c0 c1 z0 z1
  have hlt3 : g < w3.heap.size := by omega
  go_upto_region 5 with (first
    | (at_builtin; refine wpList_append_lies _ rfl _ _ 22 rfl h 3 i0 (.int .i64 0) 1 8 Tryd.underlying22 hi hz0 hz1 hz2 int_size (by decide) (.slice (some ⟨h, 0, none⟩) (pre.length + 1) cap) (pre.length + 1) (ints (pre ++ [s])) (by rfl) (HOWN3.out.alloc _) ⟨w3.heap.size, 0, none⟩ 1 1 [.int .i64 S'] (by rfl) rfl (cell_one_new _ _ _) (one1 _) (by decide) (by unfold maxLen; omega) (by omega) (by rw [alloc_size]; omega) (w3.heap.size + 1) (by rw [alloc_size]) ?_
       intro g' cap' w4 hown4 hgrow4 hat4 hlt4
       have HA4 := hid hat4
       have HK : Hid (∀ k, w4.cell? ⟨g, k, none⟩ = w3.cell? ⟨g, k, none⟩ ∧ w4.frozen? ⟨g, k, none⟩ = w3.frozen? ⟨g, k, none⟩) := hid (fun k => ⟨grown_far hgrow4 hlt3 (block_ne ne _ _) k, (World.frozen?_of_block (hgrow4.block g (by rw [alloc_size]; omega) (Ne.symm (block_ne ne _ _)))).trans (frz_alloc _ hlt3)⟩)
       have HGB := hid hgrow4
       clear hgrow4 hat4
       have e0 : w4.cell? ⟨g, 0, none⟩ = some (.slice (some ⟨h, 0, none⟩) (pre.length + 1) cap) := ((HK.out 0).1).trans d0
       have e1 : w4.cell? ⟨g, 1, none⟩ = some (.int .i64 f) := ((HK.out 1).1).trans d1
       have x0 : w4.frozen? ⟨g, 0, none⟩ = false := ((HK.out 0).2).trans y0
       have x1 : w4.frozen? ⟨g, 1, none⟩ = false := ((HK.out 1).2).trans y1))
  clear d0 d1 y0 y1
  go_wp2_with fail
  go_ret
  have hgg : g' = h ∨ w3.heap.size + 1 ≤ g' := by
    rcases HA4.out with e | e
    · have e' : some h = some g' := e
      injection e' with e'
      exact Or.inl e'.symm
    · exact Or.inr (by omega)
  have hne : g ≠ g' := by omega
  have lt4 : g < w4.heap.size := by
    have := HGB.out.size
    rw [alloc_size] at this
    omega
  have M := mr_after (L := pre ++ [s] ++ [S']) lt4 hlt4 hne e0 e1 x0 x1 (own_base hown4 (Nat.le_refl _)) (by simp) (ints_app _ _).symm
  have B1 : Bx g h w w3 := Bx.of hb3
  have B3 : Bx g h w w4 := B1.grown HGB.out (fun k e => by have e' : some h = some k := e; injection e' with e'; omega)
  have B : Bx g h w (w4.setCell ⟨g, 0, none⟩ (.slice (some ⟨g', 0, none⟩) (pre.length + 1 + 1) cap')) := B3.set (p := ⟨g, 0, none⟩) (Or.inr (Or.inl rfl)) _
  exact ⟨rfl, g', cap', M, B, by omega⟩
set_option maxHeartbeats 4000000 in
set_option maxRecDepth 100000 in
theorem rdo_false {g h cap : Nat} {s f : Int} {pre : List Int} (t : Int) (w : World) (m : Mr w g h cap f (pre ++ [s])) (he : (nx s t false).2 = 0) (hl : pre.length < 100000) (hf : 0 ≤ f) (hf' : f < 1000000) : Calls Tryd.prog 16 #[.pointer (some ⟨g, 0, none⟩), .int .i64 t, .bool false] w fun e w' => e = .returned (.int .i64 0) ∧ ∃ h' cap', Mr w' g h' cap' (f + 1) (pre ++ [s] ++ [(nx s t false).1]) ∧ Bx g h w w' ∧ (h' = h ∨ w.heap.size ≤ h') := by
  obtain ⟨i0, hi, hz0, hz1, hz2⟩ := info_parts info3
  have HS := hid (rstate_any w m (by omega))
  have HN := hid (fun w => rnext_any s t false w)
  rw [he] at HN
  generalize (nx s t false).1 = S' at *
  obtain ⟨lt, hlt, ne, c0, c1, z0, z1, own⟩ := m
  have HOWN := hid own
  have hlen : (pre ++ [s]).length = pre.length + 1 := by simp
  rw [hlen] at c0
  clear own he
  have hlI : (pre.length : Int) + 1 ≤ 100000 := by omega
  go_enter Tryd.func16, Tryd.ntmps16
  go_upto_region 4 with (first
    | (go_at_call 18; (with_reducible refine (HS.out).mono ?_); rintro e w3 ⟨rfl, hb3⟩; have hs3 := hb3.size
       have d0 : w3.cell? ⟨g, 0, none⟩ = some (.slice (some ⟨h, 0, none⟩) (pre.length + 1) cap) := (hb3.cell lt).trans c0
       have d1 : w3.cell? ⟨g, 1, none⟩ = some (.int .i64 f) := (hb3.cell lt).trans c1
       have y0 : w3.frozen? ⟨g, 0, none⟩ = false := (hb3.frozen lt).trans z0
       have y1 : w3.frozen? ⟨g, 1, none⟩ = false := (hb3.frozen lt).trans z1
       have hown3 := own_block HOWN.out (hb3.block h hlt)
       rw [hlen] at hown3
       have HOWN3 := hid hown3
       clear hown3)
    | (go_at_call 24; (with_reducible refine (HN.out _).mono ?_); rintro e w4 ⟨rfl, rfl⟩))
  clear c0 c1 z0 z1
  have hlt3 : g < w3.heap.size := by omega
  go_upto_region 5 with (first
    | (at_builtin; refine wpList_append_lies _ rfl _ _ 22 rfl h 3 i0 (.int .i64 0) 1 8 Tryd.underlying22 hi hz0 hz1 hz2 int_size (by decide) (.slice (some ⟨h, 0, none⟩) (pre.length + 1) cap) (pre.length + 1) (ints (pre ++ [s])) (by rfl) (HOWN3.out.alloc _) ⟨w3.heap.size, 0, none⟩ 1 1 [.int .i64 S'] (by rfl) rfl (cell_one_new _ _ _) (one1 _) (by decide) (by unfold maxLen; omega) (by omega) (by rw [alloc_size]; omega) (w3.heap.size + 1) (by rw [alloc_size]) ?_
       intro g' cap' w4 hown4 hgrow4 hat4 hlt4
       have HA4 := hid hat4
       have HK : Hid (∀ k, w4.cell? ⟨g, k, none⟩ = w3.cell? ⟨g, k, none⟩ ∧ w4.frozen? ⟨g, k, none⟩ = w3.frozen? ⟨g, k, none⟩) := hid (fun k => ⟨grown_far hgrow4 hlt3 (block_ne ne _ _) k, (World.frozen?_of_block (hgrow4.block g (by rw [alloc_size]; omega) (Ne.symm (block_ne ne _ _)))).trans (frz_alloc _ hlt3)⟩)
       have HGB := hid hgrow4
       clear hgrow4 hat4
       have e0 : w4.cell? ⟨g, 0, none⟩ = some (.slice (some ⟨h, 0, none⟩) (pre.length + 1) cap) := ((HK.out 0).1).trans d0
       have e1 : w4.cell? ⟨g, 1, none⟩ = some (.int .i64 f) := ((HK.out 1).1).trans d1
       have x0 : w4.frozen? ⟨g, 0, none⟩ = false := ((HK.out 0).2).trans y0
       have x1 : w4.frozen? ⟨g, 1, none⟩ = false := ((HK.out 1).2).trans y1))
  clear d0 d1 y0 y1
  go_wp2_with fail
  go_ret
  have hgg : g' = h ∨ w3.heap.size + 1 ≤ g' := by
    rcases HA4.out with e | e
    · have e' : some h = some g' := e
      injection e' with e'
      exact Or.inl e'.symm
    · exact Or.inr (by omega)
  have hne : g ≠ g' := by omega
  have lt4 : g < w4.heap.size := by
    have := HGB.out.size
    rw [alloc_size] at this
    omega
  have M := mr_after (L := pre ++ [s] ++ [S']) lt4 hlt4 hne e0 e1 x0 x1 (own_base hown4 (Nat.le_refl _)) (by simp) (ints_app _ _).symm
  have B1 : Bx g h w w3 := Bx.of hb3
  have B3 : Bx g h w w4 := B1.grown HGB.out (fun k e => by have e' : some h = some k := e; injection e' with e'; omega)
  have B : Bx g h w (w4.setCell ⟨g, 0, none⟩ (.slice (some ⟨g', 0, none⟩) (pre.length + 1 + 1) cap')) := B3.set (p := ⟨g, 0, none⟩) (Or.inr (Or.inl rfl)) _
  exact ⟨rfl, g', cap', (by have := M.failed (f + 1); go_num), B.set (p := ⟨g, 1, none⟩) (Or.inr (Or.inl rfl)) _, by omega⟩
theorem rdo_ok {g h cap : Nat} {s f : Int} {pre : List Int} (t : Int) (ok : Bool) (w : World) (m : Mr w g h cap f (pre ++ [s])) (he : (nx s t ok).2 = 0) (hl : pre.length < 100000) (hf : 0 ≤ f) (hf' : f < 1000000) : Calls Tryd.prog 16 #[.pointer (some ⟨g, 0, none⟩), .int .i64 t, .bool ok] w fun e w' => e = .returned (.int .i64 0) ∧ ∃ h' cap', Mr w' g h' cap' (if ok then f else f + 1) (pre ++ [s] ++ [(nx s t ok).1]) ∧ Bx g h w w' ∧ (h' = h ∨ w.heap.size ≤ h') := by
  cases ok
  · exact rdo_false t w m he hl hf hf'
  · exact rdo_true t w m he hl hf hf'
theorem rd_drop {w : World} {base h cap : Nat} {L : List Int} (k : Nat) (ho : w.ownsRow base 3 1 (.slice (some ⟨h, 0, none⟩) L.length cap) L.length (ints L)) (hm : L.length ≤ maxLen) : RdI w (.slice (some ⟨h, k, none⟩) (L.drop k).length (cap - k)) (L.drop k) := by
  obtain ⟨a, c, e, hc, _, hr⟩ := rdI_own ho hm
  injection e with e1 e2 e3
  subst e3
  refine ⟨_, _, rfl, by simp; omega, by simp; omega, fun hp => ?_⟩
  have hp' : 0 < L.length := by simp at hp; omega
  obtain ⟨g, off, k1, k2, k3⟩ := hr hp'
  rw [k1] at e1
  injection e1 with e1
  injection e1 with q1 q2
  subst q1
  subst q2
  refine ⟨h, k, rfl, k2, fun i u e => ?_⟩
  have := k3 (k + i) u (by rwa [List.getElem?_drop] at e)
  rwa [Nat.zero_add] at this
set_option maxHeartbeats 4000000 in
theorem rhistory_small {g h cap : Nat} {f : Int} {l : List Int} (w : World) (m : Mr w g h cap f l) (hl : l.length ≤ 100000) (hp : 0 < l.length) (hb : l.length ≤ 4096) : Calls Tryd.prog 22 #[.pointer (some ⟨g, 0, none⟩)] w fun e w' => ∃ v, e = .returned v ∧ RdI w' v (l.drop (l.length - 4096)) ∧ Below w.heap.size w w' := by
  obtain ⟨j0, ji, jz0, jz1, jz2⟩ := info_parts info3
  have c0 := m.c0
  have lt := m.lt
  have HX := hid (rd_drop (l.length - 4096) m.own (by unfold maxLen; omega))
  have hcl : l.length ≤ cap := by
    obtain ⟨_, c, hce, hcl, -, -⟩ := rdI_own m.own (by unfold maxLen; omega)
    injection hce with q1 q2 q3
    omega
  have HL : Hid ((l.drop (l.length - 4096)).length = l.length) := hid (by rw [List.length_drop]; omega)
  clear m
  generalize hLD : l.drop (l.length - 4096) = LD at *
  have HLD := hid hLD
  clear hLD
  have r0 : ∀ (z : Later w), z.val.cell? ⟨g, 0, none⟩ = some (.slice (some ⟨h, 0, none⟩) l.length cap) := fun z => (z.cell lt).trans c0
  clear c0
  have hcI : (l.length : Int) ≤ (cap : Int) := by omega
  have hlI : (l.length : Int) ≤ 100000 := by omega
  have HXX : Hid (RdI w (.slice (some ⟨h, 0, none⟩) l.length cap) LD) := hid (by have := HX.out; rw [HL.out, show l.length - 4096 = 0 from by omega, Nat.sub_zero] at this; exact this)
  have hK1 : (l.length : Int) - 4096 ≤ 0 := by omega
  have hK5 : max (0 : Int) ((l.length : Int) - 4096) = 0 := by omega
  go_enter Tryd.func22, Tryd.ntmps22
  go_wp2_with fail
  refine wp_region_later_tail (w0 := w) 13 (Below.refl _ _) (by kernel_rfl) (by kernel_rfl) ?_
  simp only [List.take_succ_cons, List.take_zero, List.drop_succ_cons, List.drop_zero]
  repeat (go_big_quiet_step (fail))
  refine wpQuiet_nil ?_
  intro _ hw'
  obtain ⟨y, hw''⟩ := hw'
  subst hw''
  go_wp2_with (first
    | (at_builtin; go_loud (refine wpList_append_rd rfl _ _ rfl ji jz0 jz1 jz2 w.heap.size (.slice none 0 0) [] (by rfl) (World.ownsRow_nil _ _ _ _) (.slice (some ⟨h, 0, none⟩) l.length cap) LD (by rfl) (rdI_below (HXX.out) y.ok) (by have := HL.out; simp only [List.length_nil]; omega) y.ok.size ?_
                            intro v4 w4 hown4 hgrow4 hat4
                            have HG4 := hid hgrow4
                            have HO4 := hid hown4
                            clear hgrow4 hown4)))
  go_ret
  have ho := HO4.out
  rw [List.nil_append] at ho
  exact ⟨_, rfl, rdI_own ho (by have := HL.out; unfold maxLen; omega), y.ok.grown HG4.out y.ok.size (fun k e => by cases e)⟩
set_option maxHeartbeats 4000000 in
theorem rhistory_big {g h cap : Nat} {f : Int} {l : List Int} (w : World) (m : Mr w g h cap f l) (hl : l.length ≤ 100000) (hp : 0 < l.length) (hb : 4096 < l.length) : Calls Tryd.prog 22 #[.pointer (some ⟨g, 0, none⟩)] w fun e w' => ∃ v, e = .returned v ∧ RdI w' v (l.drop (l.length - 4096)) ∧ Below w.heap.size w w' := by
  obtain ⟨j0, ji, jz0, jz1, jz2⟩ := info_parts info3
  have c0 := m.c0
  have lt := m.lt
  have HX := hid (rd_drop (l.length - 4096) m.own (by unfold maxLen; omega))
  have hcl : l.length ≤ cap := by
    obtain ⟨_, c, hce, hcl, -, -⟩ := rdI_own m.own (by unfold maxLen; omega)
    injection hce with q1 q2 q3
    omega
  have HL : Hid ((l.drop (l.length - 4096)).length = 4096) := hid (by rw [List.length_drop]; omega)
  obtain ⟨K, hK⟩ : ∃ K, K = l.length - 4096 := ⟨_, rfl⟩
  clear m
  generalize hLD : l.drop (l.length - 4096) = LD at *
  have HLD := hid hLD
  clear hLD
  have r0 : ∀ (z : Later w), z.val.cell? ⟨g, 0, none⟩ = some (.slice (some ⟨h, 0, none⟩) l.length cap) := fun z => (z.cell lt).trans c0
  clear c0
  have hcI : (l.length : Int) ≤ (cap : Int) := by omega
  have hlI : (l.length : Int) ≤ 100000 := by omega
  have HXX : Hid (RdI w (.slice (some ⟨h, K, none⟩) (l.length - K) (cap - K)) LD) := hid (by have := HX.out; rw [HL.out] at this; rw [hK]; rwa [show l.length - (l.length - 4096) = 4096 from by omega])
  have hKI : (l.length : Int) - 4096 = (K : Int) := by omega
  have hK0 : (0 : Int) ≤ (K : Int) := by omega
  have hK1 : ¬ ((K : Int) ≤ 0) := by omega
  have hK2 : (K : Int) ≤ (l.length : Int) := by omega
  have hK3 : (K : Int) ≤ (cap : Int) := by omega
  have hK4 : ¬ (cap = K) := by omega
  have hK5 : max (0 : Int) (K : Int) = (K : Int) := by omega
  clear hK
  go_enter Tryd.func22, Tryd.ntmps22
  go_wp2_with fail
  refine wp_region_later_tail (w0 := w) 13 (Below.refl _ _) (by kernel_rfl) (by kernel_rfl) ?_
  simp only [List.take_succ_cons, List.take_zero, List.drop_succ_cons, List.drop_zero]
  repeat (go_big_quiet_step (fail))
  refine wpQuiet_nil ?_
  intro _ hw'
  obtain ⟨y, hw''⟩ := hw'
  subst hw''
  go_wp2_with (first
    | (at_builtin; go_loud (refine wpList_append_rd rfl _ _ rfl ji jz0 jz1 jz2 w.heap.size (.slice none 0 0) [] (by rfl) (World.ownsRow_nil _ _ _ _) (.slice (some ⟨h, K, none⟩) (l.length - K) (cap - K)) LD (by rfl) (rdI_below (HXX.out) y.ok) (by have := HL.out; simp only [List.length_nil]; omega) y.ok.size ?_
                            intro v4 w4 hown4 hgrow4 hat4
                            have HG4 := hid hgrow4
                            have HO4 := hid hown4
                            clear hgrow4 hown4)))
  go_ret
  have ho := HO4.out
  rw [List.nil_append] at ho
  exact ⟨_, rfl, rdI_own ho (by have := HL.out; unfold maxLen; omega), y.ok.grown HG4.out y.ok.size (fun k e => by cases e)⟩
theorem rhistory_any {g h cap : Nat} {f : Int} {l : List Int} (w : World) (m : Mr w g h cap f l) (hl : l.length ≤ 100000) (hp : 0 < l.length) : Calls Tryd.prog 22 #[.pointer (some ⟨g, 0, none⟩)] w fun e w' => ∃ v, e = .returned v ∧ RdI w' v (l.drop (l.length - 4096)) ∧ Below w.heap.size w w' := by
  rcases Nat.lt_or_ge 4096 l.length with h | h
  · exact rhistory_big w m hl hp h
  · exact rhistory_small w m hl hp h
end Go.Proofs.YthklehpekglohaaDoor
