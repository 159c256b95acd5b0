/- Walks: a transition of a machine whose history is full. -/
import Derived.Test.YthklehpekglohaaDoorWi
import Derived.Deep.Cut
namespace Go.Proofs.YthklehpekglohaaDoor
open Go.RowKit
set_option linter.unusedVariables false
set_option linter.unusedSimpArgs false
theorem rd_tail {w : World} {base h cap : Nat} {L : List Int} (ho : w.ownsRow base 3 1 (.slice (some ⟨h, 0, none⟩) L.length cap) L.length (ints L)) (hm : L.length ≤ maxLen := by first | assumption | (unfold maxLen; simp; omega)) : RdI w (.slice (some ⟨h, 1, none⟩) (L.drop 1).length (cap - 1)) (L.drop 1) := by
  obtain ⟨a, c, e, hc, _, hr⟩ := rdI_own ho hm
  injection e with e1 e2 e3
  subst e3
  refine ⟨_, _, rfl, by simp; omega, by simp; omega, fun hp => ?_⟩
  have hp' : 0 < L.length := by simp at hp; omega
  obtain ⟨g, off, k1, k2, k3⟩ := hr hp'
  rw [k1] at e1
  injection e1 with e1
  injection e1 with q1 q2
  subst q1
  subst q2
  refine ⟨h, 1, rfl, k2, fun i u e => ?_⟩
  have := k3 (1 + i) u (by rwa [List.getElem?_drop] at e)
  rwa [Nat.zero_add] at this
set_option maxHeartbeats 4000000 in
set_option maxRecDepth 100000 in
theorem do_long_true {g h cap : Nat} {s f : Int} {l : List Int} (t : Int) (w : World) (hR : Rules w) (m : Mc w g h cap s f l) (he : (nx s t true).2 = 0) (hl : l.length = 4096) (hf : 0 ≤ f) (hf' : f < 1000000) : Calls Tryd.prog 15 #[.pointer (some ⟨g, 0, none⟩), .int .i64 t, .bool true] w fun e w' => e = .returned (.int .i64 0) ∧ ∃ h' cap', Mc w' g h' cap' (nx s t true).1 f ((l ++ [(nx s t true).1]).drop 1) ∧ Bx g h w w' ∧ (h' = h ∨ w.heap.size ≤ h') := by
  obtain ⟨i0, hi, hz0, hz1, hz2⟩ := info_parts info3
  have HB := hid (next_any s t true w hR)
  rw [he] at HB
  generalize (nx s t true).1 = S' at *
  obtain ⟨lt, hlt, ne, c0, c1, c2, z0, z1, z2, own⟩ := m
  have HOWN := hid own
  clear own hR he
  have hlI : (4096 : Int) < (l.length : Int) + 1 := by omega
  have hl1 : l.length ≤ 4096 := by omega
  have hl2 : 4096 ≤ l.length := by omega
  clear hl
  go_enter Tryd.func15, Tryd.ntmps15
  go_upto_region 6 with (first
    | (go_at_call 23; (with_reducible refine (HB.out).mono ?_); rintro e w3 ⟨rfl, hb3⟩; have hs3 := hb3.size
       have d1 : w3.cell? ⟨g, 1, none⟩ = some (.slice (some ⟨h, 0, none⟩) l.length cap) := (hb3.cell lt).trans c1
       have d2 : w3.cell? ⟨g, 2, none⟩ = some (.int .i64 f) := (hb3.cell lt).trans c2
       have d0 : w3.cell? ⟨g, 0, none⟩ = some (.int .i64 s) := (hb3.cell lt).trans c0
       have y0 : w3.frozen? ⟨g, 0, none⟩ = false := (hb3.frozen lt).trans z0
       have y1 : w3.frozen? ⟨g, 1, none⟩ = false := (hb3.frozen lt).trans z1
       have y2 : w3.frozen? ⟨g, 2, none⟩ = false := (hb3.frozen lt).trans z2
       have HOWN3 := hid (own_block HOWN.out (hb3.block h hlt))))
  clear c0 c1 c2 z0 z1 z2
  have HOWN5 : Hid (∀ o, ((w3.setCell ⟨g, 0, none⟩ (.int .i64 S')).alloc o).ownsRow h 3 1 (.slice (some ⟨h, 0, none⟩) l.length cap) l.length (ints l)) := hid (fun o => (own_set HOWN3.out (block_ne ne _ _) _).alloc o)
  have hz5 : (w3.setCell ⟨g, 0, none⟩ (.int .i64 S')).heap.size = w3.heap.size := set_size _ _ _
  have HS5 := hid hz5
  clear hz5
  go_upto_region 8 with (first
    | (at_builtin; go_loud (refine wpList_append_lies _ rfl _ _ 22 rfl h 3 i0 (.int .i64 0) 1 8 Tryd.underlying22 hi hz0 hz1 hz2 int_size (by decide) (.slice (some ⟨h, 0, none⟩) l.length cap) l.length (ints l) (by rfl) (HOWN5.out _) ⟨w3.heap.size, 0, none⟩ 1 1 [.int .i64 S'] (by rfl) rfl (cells1_new HS5.out _ _) (one1 _) (by decide) (by unfold maxLen; omega) (by omega) (by rw [alloc_size, HS5.out]; omega) (w3.heap.size + 1) (by rw [alloc_size, HS5.out]) ?_
                            intro g' cap' w4 hown4 hgrow4 hat4 hlt4
                            have HA4 := hid hat4
                            have HK : Hid (∀ k, w4.cell? ⟨g, k, none⟩ = (w3.setCell ⟨g, 0, none⟩ (.int .i64 S')).cell? ⟨g, k, none⟩ ∧ w4.frozen? ⟨g, k, none⟩ = w3.frozen? ⟨g, k, none⟩) := hid (fun k => ⟨grown_far hgrow4 (by rw [HS5.out]; omega) (block_ne ne _ _) k, (World.frozen?_of_block (hgrow4.block g (by rw [alloc_size, HS5.out]; omega) (Ne.symm (block_ne ne _ _)))).trans ((frz_alloc _ (by rw [HS5.out]; omega)).trans (set_frz _ _ _ _))⟩)
                            have HGB := hid hgrow4
                            clear hgrow4 hat4
                            have e0 : w4.cell? ⟨g, 0, none⟩ = some (.int .i64 S') := ((HK.out 0).1).trans (by go_simp)
                            have e1 : w4.cell? ⟨g, 1, none⟩ = some (.slice (some ⟨h, 0, none⟩) l.length cap) := ((HK.out 1).1).trans (by go_simp)
                            have e2 : w4.cell? ⟨g, 2, none⟩ = some (.int .i64 f) := ((HK.out 2).1).trans (by go_simp)
                            have x0 : w4.frozen? ⟨g, 0, none⟩ = false := ((HK.out 0).2).trans y0
                            have x1 : w4.frozen? ⟨g, 1, none⟩ = false := ((HK.out 1).2).trans y1
                            have x2 : w4.frozen? ⟨g, 2, none⟩ = false := ((HK.out 2).2).trans y2)))
  clear d0 d1 d2 y0 y1 y2
  have hgg : g' = h ∨ w3.heap.size + 1 ≤ g' := by
    rcases HA4.out with e | e
    · have e' : some h = some g' := e
      injection e' with e'
      exact Or.inl e'.symm
    · exact Or.inr (by omega)
  have hge : h ≤ w3.heap.size := by omega
  have hne : g ≠ g' := by omega
  have lt4 : g < w4.heap.size := by
    have := HGB.out.size
    rw [alloc_size, HS5.out] at this
    omega
  have M := mc_after (L := l ++ [S']) lt4 hlt4 hne e0 e1 e2 x0 x1 x2 (own_base hown4 (Nat.le_refl _)) (by simp) (ints_app _ _).symm
  have B1 : Bx g h w w3 := Bx.of hb3
  have B2 : Bx g h w (w3.setCell ⟨g, 0, none⟩ (.int .i64 S')) := B1.set (p := ⟨g, 0, none⟩) (Or.inr (Or.inl rfl)) _
  have B3 : Bx g h w w4 := B2.grown HGB.out (fun k e => by have e' : some h = some k := e; injection e' with e'; omega)
  have B : Bx g h w (w4.setCell ⟨g, 1, none⟩ (.slice (some ⟨g', 0, none⟩) (l.length + 1) cap')) := B3.set (p := ⟨g, 1, none⟩) (Or.inr (Or.inl rfl)) _
  have hgg' : g' = h ∨ w.heap.size ≤ g' := by omega
  obtain ⟨wB, hwB⟩ : ∃ wB, wB = w4.setCell ⟨g, 1, none⟩ (.slice (some ⟨g', 0, none⟩) (l.length + 1) cap') := ⟨_, rfl⟩
  rw [← hwB] at M B
  rw [← hwB]
  clear hwB e0 e1 e2 x0 x1 x2 HK HOWN HOWN3 HOWN5 HS5 HGB HA4 B1 B2 B3 hs3 hb3 hown4 hlt4 HB hlt ne hge hne lt4 hgg lt
  have hML : (l ++ [S']).length = l.length + 1 := by simp
  have m0 := M.c0
  have m1 := M.c1
  have m2 := M.c2
  have v0 := M.z0
  have v1 := M.z1
  have v2 := M.z2
  have lt := M.lt
  have hlt := M.hlt
  have ne := M.ne
  have HOW := hid M.own
  have hcl : (l ++ [S']).length ≤ cap' := by
    obtain ⟨_, c, hce, hcl, -, -⟩ := (M.rd (by unfold maxLen; omega))
    injection hce with q1 q2 q3
    omega
  rw [hML] at m1 hcl
  have HRD := hid (rd_tail HOW.out)
  have HBX := hid B
  clear M B
  have hci : ¬ (cap' = 1) := by omega
  have hcI : (1 : Int) ≤ (cap' : Int) := by omega
  have hlI1 : (1 : Int) ≤ (l.length : Int) + 1 := by omega
  have hlcI : (l.length : Int) + 1 ≤ (cap' : Int) := by omega
  have HDL : Hid (((l ++ [S']).drop 1).length = l.length) := hid (by simp)
  generalize hLD : (l ++ [S']).drop 1 = LD at *
  have HLD := hid hLD
  clear hLD
  go_upto_region 10 with (first
    | (at_builtin; refine wpList_append_rd rfl _ _ rfl hi hz0 hz1 hz2 wB.heap.size (.slice (some ⟨wB.heap.size, 0, none⟩) 0 0) [] (by rfl) (own_none wB) (.slice (some ⟨g', 1, none⟩) l.length (cap' - 1)) LD (by rfl) (rdI_below (HDL.out ▸ HRD.out) ((Below.refl _ _).alloc (Nat.le_refl _) _)) (by have := HDL.out; simp only [List.length_nil]; omega) (by rw [alloc_size]; omega) ?_
       intro v6 w6 hown6 hgrow6 hat6
       rw [List.nil_append] at hown6
       obtain ⟨g6, cap6, rfl, hg6, hlt6⟩ := hown6.form (by have := HDL.out; omega)
       have HO6 := hid hown6
       have HG6 := hid hgrow6
       have u0 : w6.cell? ⟨g, 0, none⟩ = some (.int .i64 S') := (grown_far hgrow6 lt (block_ne (by omega) _ _) 0).trans m0
       have u1 : w6.cell? ⟨g, 1, none⟩ = some (.slice (some ⟨g', 0, none⟩) (l.length + 1) cap') := (grown_far hgrow6 lt (block_ne (by omega) _ _) 1).trans m1
       have u2 : w6.cell? ⟨g, 2, none⟩ = some (.int .i64 f) := (grown_far hgrow6 lt (block_ne (by omega) _ _) 2).trans m2
       have hfz : ∀ k, w6.frozen? ⟨g, k, none⟩ = wB.frozen? ⟨g, k, none⟩ := fun k => (World.frozen?_of_block (hgrow6.block g (by rw [alloc_size]; omega) (Ne.symm (block_ne (by omega) _ _)))).trans (frz_alloc _ lt)
       have t0 := (hfz 0).trans v0
       have t1 := (hfz 1).trans v1
       have t2 := (hfz 2).trans v2
       clear hown6 hgrow6 hfz))
  clear m0 m1 m2 v0 v1 v2
  go_wp2_with fail
  go_ret
  have hs6 := HG6.out.size
  rw [alloc_size] at hs6
  have M := mc_after (L := LD) (by omega) hlt6 (by omega) u0 u1 u2 t0 t1 t2 (own_base HO6.out (Nat.le_refl _)) rfl rfl
  have B3 : Bx g h w w6 := HBX.out.grown HG6.out (fun k e => by have e' : some wB.heap.size = some k := e; injection e' with e'; have := HBX.out.size; omega)
  have B : Bx g h w (w6.setCell ⟨g, 1, none⟩ (.slice (some ⟨g6, 0, none⟩) LD.length cap6)) := B3.set (p := ⟨g, 1, none⟩) (Or.inr (Or.inl rfl)) _
  refine ⟨rfl, g6, cap6, ?_, B, by have := HBX.out.size; omega⟩
  rw [HLD.out]
  exact M
set_option maxHeartbeats 4000000 in
set_option maxRecDepth 100000 in
theorem do_long_false {g h cap : Nat} {s f : Int} {l : List Int} (t : Int) (w : World) (hR : Rules w) (m : Mc w g h cap s f l) (he : (nx s t false).2 = 0) (hl : l.length = 4096) (hf : 0 ≤ f) (hf' : f < 1000000) : Calls Tryd.prog 15 #[.pointer (some ⟨g, 0, none⟩), .int .i64 t, .bool false] w fun e w' => e = .returned (.int .i64 0) ∧ ∃ h' cap', Mc w' g h' cap' (nx s t false).1 (f + 1) ((l ++ [(nx s t false).1]).drop 1) ∧ Bx g h w w' ∧ (h' = h ∨ w.heap.size ≤ h') := by
  obtain ⟨i0, hi, hz0, hz1, hz2⟩ := info_parts info3
  have HB := hid (next_any s t false w hR)
  rw [he] at HB
  generalize (nx s t false).1 = S' at *
  obtain ⟨lt, hlt, ne, c0, c1, c2, z0, z1, z2, own⟩ := m
  have HOWN := hid own
  clear own hR he
  have hlI : (4096 : Int) < (l.length : Int) + 1 := by omega
  have hl1 : l.length ≤ 4096 := by omega
  have hl2 : 4096 ≤ l.length := by omega
  clear hl
  go_enter Tryd.func15, Tryd.ntmps15
  go_upto_region 6 with (first
    | (go_at_call 23; (with_reducible refine (HB.out).mono ?_); rintro e w3 ⟨rfl, hb3⟩; have hs3 := hb3.size
       have d1 : w3.cell? ⟨g, 1, none⟩ = some (.slice (some ⟨h, 0, none⟩) l.length cap) := (hb3.cell lt).trans c1
       have d2 : w3.cell? ⟨g, 2, none⟩ = some (.int .i64 f) := (hb3.cell lt).trans c2
       have d0 : w3.cell? ⟨g, 0, none⟩ = some (.int .i64 s) := (hb3.cell lt).trans c0
       have y0 : w3.frozen? ⟨g, 0, none⟩ = false := (hb3.frozen lt).trans z0
       have y1 : w3.frozen? ⟨g, 1, none⟩ = false := (hb3.frozen lt).trans z1
       have y2 : w3.frozen? ⟨g, 2, none⟩ = false := (hb3.frozen lt).trans z2
       have HOWN3 := hid (own_block HOWN.out (hb3.block h hlt))))
  clear c0 c1 c2 z0 z1 z2
  have HOWN5 : Hid (∀ o, ((w3.setCell ⟨g, 0, none⟩ (.int .i64 S')).alloc o).ownsRow h 3 1 (.slice (some ⟨h, 0, none⟩) l.length cap) l.length (ints l)) := hid (fun o => (own_set HOWN3.out (block_ne ne _ _) _).alloc o)
  have hz5 : (w3.setCell ⟨g, 0, none⟩ (.int .i64 S')).heap.size = w3.heap.size := set_size _ _ _
  have HS5 := hid hz5
  clear hz5
  go_upto_region 8 with (first
    | (at_builtin; go_loud (refine wpList_append_lies _ rfl _ _ 22 rfl h 3 i0 (.int .i64 0) 1 8 Tryd.underlying22 hi hz0 hz1 hz2 int_size (by decide) (.slice (some ⟨h, 0, none⟩) l.length cap) l.length (ints l) (by rfl) (HOWN5.out _) ⟨w3.heap.size, 0, none⟩ 1 1 [.int .i64 S'] (by rfl) rfl (cells1_new HS5.out _ _) (one1 _) (by decide) (by unfold maxLen; omega) (by omega) (by rw [alloc_size, HS5.out]; omega) (w3.heap.size + 1) (by rw [alloc_size, HS5.out]) ?_
                            intro g' cap' w4 hown4 hgrow4 hat4 hlt4
                            have HA4 := hid hat4
                            have HK : Hid (∀ k, w4.cell? ⟨g, k, none⟩ = (w3.setCell ⟨g, 0, none⟩ (.int .i64 S')).cell? ⟨g, k, none⟩ ∧ w4.frozen? ⟨g, k, none⟩ = w3.frozen? ⟨g, k, none⟩) := hid (fun k => ⟨grown_far hgrow4 (by rw [HS5.out]; omega) (block_ne ne _ _) k, (World.frozen?_of_block (hgrow4.block g (by rw [alloc_size, HS5.out]; omega) (Ne.symm (block_ne ne _ _)))).trans ((frz_alloc _ (by rw [HS5.out]; omega)).trans (set_frz _ _ _ _))⟩)
                            have HGB := hid hgrow4
                            clear hgrow4 hat4
                            have e0 : w4.cell? ⟨g, 0, none⟩ = some (.int .i64 S') := ((HK.out 0).1).trans (by go_simp)
                            have e1 : w4.cell? ⟨g, 1, none⟩ = some (.slice (some ⟨h, 0, none⟩) l.length cap) := ((HK.out 1).1).trans (by go_simp)
                            have e2 : w4.cell? ⟨g, 2, none⟩ = some (.int .i64 f) := ((HK.out 2).1).trans (by go_simp)
                            have x0 : w4.frozen? ⟨g, 0, none⟩ = false := ((HK.out 0).2).trans y0
                            have x1 : w4.frozen? ⟨g, 1, none⟩ = false := ((HK.out 1).2).trans y1
                            have x2 : w4.frozen? ⟨g, 2, none⟩ = false := ((HK.out 2).2).trans y2)))
  clear d0 d1 d2 y0 y1 y2
  have hgg : g' = h ∨ w3.heap.size + 1 ≤ g' := by
    rcases HA4.out with e | e
    · have e' : some h = some g' := e
      injection e' with e'
      exact Or.inl e'.symm
    · exact Or.inr (by omega)
  have hge : h ≤ w3.heap.size := by omega
  have hne : g ≠ g' := by omega
  have lt4 : g < w4.heap.size := by
    have := HGB.out.size
    rw [alloc_size, HS5.out] at this
    omega
  have M := mc_after (L := l ++ [S']) lt4 hlt4 hne e0 e1 e2 x0 x1 x2 (own_base hown4 (Nat.le_refl _)) (by simp) (ints_app _ _).symm
  have B1 : Bx g h w w3 := Bx.of hb3
  have B2 : Bx g h w (w3.setCell ⟨g, 0, none⟩ (.int .i64 S')) := B1.set (p := ⟨g, 0, none⟩) (Or.inr (Or.inl rfl)) _
  have B3 : Bx g h w w4 := B2.grown HGB.out (fun k e => by have e' : some h = some k := e; injection e' with e'; omega)
  have B : Bx g h w (w4.setCell ⟨g, 1, none⟩ (.slice (some ⟨g', 0, none⟩) (l.length + 1) cap')) := B3.set (p := ⟨g, 1, none⟩) (Or.inr (Or.inl rfl)) _
  have hgg' : g' = h ∨ w.heap.size ≤ g' := by omega
  obtain ⟨wB, hwB⟩ : ∃ wB, wB = w4.setCell ⟨g, 1, none⟩ (.slice (some ⟨g', 0, none⟩) (l.length + 1) cap') := ⟨_, rfl⟩
  rw [← hwB] at M B
  rw [← hwB]
  clear hwB e0 e1 e2 x0 x1 x2 HK HOWN HOWN3 HOWN5 HS5 HGB HA4 B1 B2 B3 hs3 hb3 hown4 hlt4 HB hlt ne hge hne lt4 hgg lt
  have hML : (l ++ [S']).length = l.length + 1 := by simp
  have m0 := M.c0
  have m1 := M.c1
  have m2 := M.c2
  have v0 := M.z0
  have v1 := M.z1
  have v2 := M.z2
  have lt := M.lt
  have hlt := M.hlt
  have ne := M.ne
  have HOW := hid M.own
  have hcl : (l ++ [S']).length ≤ cap' := by
    obtain ⟨_, c, hce, hcl, -, -⟩ := (M.rd (by unfold maxLen; omega))
    injection hce with q1 q2 q3
    omega
  rw [hML] at m1 hcl
  have HRD := hid (rd_tail HOW.out)
  have HBX := hid B
  clear M B
  have hci : ¬ (cap' = 1) := by omega
  have hcI : (1 : Int) ≤ (cap' : Int) := by omega
  have hlI1 : (1 : Int) ≤ (l.length : Int) + 1 := by omega
  have hlcI : (l.length : Int) + 1 ≤ (cap' : Int) := by omega
  have HDL : Hid (((l ++ [S']).drop 1).length = l.length) := hid (by simp)
  generalize hLD : (l ++ [S']).drop 1 = LD at *
  have HLD := hid hLD
  clear hLD
  go_upto_region 10 with (first
    | (at_builtin; refine wpList_append_rd rfl _ _ rfl hi hz0 hz1 hz2 wB.heap.size (.slice (some ⟨wB.heap.size, 0, none⟩) 0 0) [] (by rfl) (own_none wB) (.slice (some ⟨g', 1, none⟩) l.length (cap' - 1)) LD (by rfl) (rdI_below (HDL.out ▸ HRD.out) ((Below.refl _ _).alloc (Nat.le_refl _) _)) (by have := HDL.out; simp only [List.length_nil]; omega) (by rw [alloc_size]; omega) ?_
       intro v6 w6 hown6 hgrow6 hat6
       rw [List.nil_append] at hown6
       obtain ⟨g6, cap6, rfl, hg6, hlt6⟩ := hown6.form (by have := HDL.out; omega)
       have HO6 := hid hown6
       have HG6 := hid hgrow6
       have u0 : w6.cell? ⟨g, 0, none⟩ = some (.int .i64 S') := (grown_far hgrow6 lt (block_ne (by omega) _ _) 0).trans m0
       have u1 : w6.cell? ⟨g, 1, none⟩ = some (.slice (some ⟨g', 0, none⟩) (l.length + 1) cap') := (grown_far hgrow6 lt (block_ne (by omega) _ _) 1).trans m1
       have u2 : w6.cell? ⟨g, 2, none⟩ = some (.int .i64 f) := (grown_far hgrow6 lt (block_ne (by omega) _ _) 2).trans m2
       have hfz : ∀ k, w6.frozen? ⟨g, k, none⟩ = wB.frozen? ⟨g, k, none⟩ := fun k => (World.frozen?_of_block (hgrow6.block g (by rw [alloc_size]; omega) (Ne.symm (block_ne (by omega) _ _)))).trans (frz_alloc _ lt)
       have t0 := (hfz 0).trans v0
       have t1 := (hfz 1).trans v1
       have t2 := (hfz 2).trans v2
       clear hown6 hgrow6 hfz))
  clear m0 m1 m2 v0 v1 v2
  go_wp2_with fail
  go_ret
  have hs6 := HG6.out.size
  rw [alloc_size] at hs6
  have M := mc_after (L := LD) (by omega) hlt6 (by omega) u0 u1 u2 t0 t1 t2 (own_base HO6.out (Nat.le_refl _)) rfl rfl
  have B3 : Bx g h w w6 := HBX.out.grown HG6.out (fun k e => by have e' : some wB.heap.size = some k := e; injection e' with e'; have := HBX.out.size; omega)
  have B : Bx g h w (w6.setCell ⟨g, 1, none⟩ (.slice (some ⟨g6, 0, none⟩) LD.length cap6)) := B3.set (p := ⟨g, 1, none⟩) (Or.inr (Or.inl rfl)) _
  refine ⟨rfl, g6, cap6, ?_, B.set (p := ⟨g, 2, none⟩) (Or.inr (Or.inl rfl)) _, by have := HBX.out.size; omega⟩
  rw [HLD.out]
  exact (by have := M.failed (f + 1); go_num)
end Go.Proofs.YthklehpekglohaaDoor
