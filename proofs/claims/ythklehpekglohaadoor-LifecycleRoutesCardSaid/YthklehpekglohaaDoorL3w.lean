/- The law LifecycleRoutes, walked: it returns true. -/
import Derived.Test.YthklehpekglohaaDoorWm
namespace Go.Proofs.YthklehpekglohaaDoor
open Go.RowKit
set_option linter.unusedVariables false
set_option linter.unusedSimpArgs false
set_option maxHeartbeats 16000000 in
set_option maxRecDepth 100000 in
theorem routes_out (fr tg : Int) (v : Value) (ho : oor fr tg = true) (w : World) (hR : Rules w) : Calls Tryd.prog 3 #[.int .i64 fr, .int .i64 tg, v] w fun e w' => e = .returned (.bool true) ∧ Below w.heap.size w w' := by
  have hpos := hR.pos
  have HRU := hid (fun (w' : World) (hb : Below w.heap.size w w') => hR.below hpos hb)
  have HRT := hid (fun w h => route_any fr tg w h)
  have HRR := hid (fun w => rroute_any fr tg w)
  have HRB := hid (fun w h => route_any 1 fr w h)
  have HSM : Hid (∀ (v1 v2 : Value) (l : List Int) (w : World), RdI w v1 l → RdI w v2 l → Calls Tryd.prog 9 #[v1, v2] w fun e w' => e = .returned (.bool true) ∧ Below w.heap.size w w') := hid (fun v1 v2 l w h1 h2 => by have := same_any v1 v2 l l w h1 h2; rwa [decide_eq_true rfl] at this)
  have HAW := hid (fun w h => awake_any w h)
  rw [rte_out ho] at HRT HRR
  generalize rte 1 fr = G at *
  generalize rtl fr tg = LR at *
  generalize rtl 1 fr = BG at *
  have HB0 := hid (Below.refl w.heap.size w)
  clear ho hR
  go_enter Tryd.func3, Tryd.ntmps3
  go_wp2_with (first
    | (go_at_call 7; first
       | ((with_reducible refine (HRT.out _ (HRU.out _ HB0.out)).mono ?_); rintro e w1 ⟨v1, rfl, hv1, hb1⟩; have HV1 := hid hv1; have HB1 := hid hb1; clear hv1 hb1)
       | ((with_reducible refine (HRB.out _ (HRU.out _ HB3.out)).mono ?_); rintro e w4 ⟨v4, rfl, hv4, hb4⟩; have HB4 := hid (HB3.out.trans (hb4.mono HB3.out.size)); clear hv4 hb4))
    | (go_at_call 8; (with_reducible refine (HRR.out _).mono ?_); rintro e w2 ⟨v2, rfl, hv2, hb2⟩; have HV2 := hid hv2; have HV12 := hid (rdI_below HV1.out hb2); have HB2 := hid (HB1.out.trans (hb2.mono HB1.out.size)); clear hv2 hb2)
    | (go_at_call 9; (with_reducible refine (HSM.out _ _ _ _ HV12.out HV2.out).mono ?_); rintro e w3 ⟨rfl, hb3⟩; have HB3 := hid (HB2.out.trans (hb3.mono HB2.out.size)); clear hb3)
    | (go_at_call 10; (with_reducible refine (HAW.out _ (HRU.out _ HB4.out)).mono ?_); rintro e w5 ⟨rfl, hb5⟩))
  go_ret
  exact ⟨rfl, HB4.out.trans (hb5.mono HB4.out.size)⟩
set_option maxHeartbeats 16000000 in
set_option maxRecDepth 100000 in
theorem routes_none (fr tg : Int) (v : Value) (o : List Int) (ho : oor fr tg = false) (hE : rte fr tg = 6) (w : World) (hR : Rules w) (hv : RdI w v o) : Calls Tryd.prog 3 #[.int .i64 fr, .int .i64 tg, v] w fun e w' => e = .returned (.bool true) ∧ Below w.heap.size w w' := by
  have hpos := hR.pos
  have hin : 1 ≤ fr ∧ fr ≤ 4 ∧ 1 ≤ tg ∧ tg ≤ 4 := by
    unfold oor at ho
    simp at ho
    omega
  obtain ⟨n1, n2, n3, n4⟩ := hin
  obtain ⟨j0, ji, jz0, jz1, jz2⟩ := info_parts info3
  have HRU := hid (fun (w' : World) (hb : Below w.heap.size w w') => hR.below hpos hb)
  have HVO := hid (fun (w' : World) (hb : Below w.heap.size w w') => rdI_below hv hb)
  have HRT := hid (fun w h => route_any fr tg w h)
  have HRR := hid (fun w => rroute_any fr tg w)
  have HRB := hid (fun w h => route_any 1 fr w h)
  have HSM : Hid (∀ (v1 v2 : Value) (l : List Int) (w : World), RdI w v1 l → RdI w v2 l → Calls Tryd.prog 9 #[v1, v2] w fun e w' => e = .returned (.bool true) ∧ Below w.heap.size w w') := hid (fun v1 v2 l w h1 h2 => by have := same_any v1 v2 l l w h1 h2; rwa [decide_eq_true rfl] at this)
  have HAW := hid (fun w h => awake_any w h)
  rw [hE] at HRT HRR
  rw [(rte_begin n1 n2).1] at HRB
  have HBL := hid (rtl_len (fr := 1) (tg := fr))
  have HLL := hid (rtl_len (fr := fr) (tg := tg))
  have HFOLB := hid (fol_begin n1 n2)
  have HFOLR := hid (fun h => fol_route n1 n2 n3 n4 h)
  have HFOLL := hid (fun (h : fol fr o = some tg) => best n1 n2 n3 n4 h)
  rw [hE] at HFOLL
  generalize rtl fr tg = LR at *
  generalize rtl 1 fr = BG at *
  generalize hFO : fol fr o = FO at *
  have HFF := hid (fun (x : Value) (w' : World) hr hx => (follow_any x BG (by have := HBL.out; omega) w' hr hx))
  rw [HFOLB.out] at HFF
  have HFOF : Hid (o.length ≤ 8 → ∀ (x : Value) (w' : World), Rules w' → RdI w' x (([] ++ BG) ++ o) → Calls Tryd.prog 11 #[x] w' fun e w'' => e = .returned (.tuple #[.int .i64 (FO.getD 0), .bool FO.isSome]) ∧ Below w'.heap.size w' w'') := hid (fun h8 x w' hr hx => by
    have := follow_any x _ (by have := HBL.out; simp only [List.nil_append, List.length_append]; omega) w' hr hx
    rw [List.nil_append, fol_append, HFOLB.out] at this
    have e2 : (some fr).bind (fun u => fol u o) = FO := hFO
    rw [e2] at this
    exact this)
  have hoc : o.length ≤ maxLen := by obtain ⟨_, _, _, _, h, _⟩ := hv; exact h
  obtain ⟨ao, capo, rfl, -, -, -⟩ := id hv
  have hM : maxLen ≤ 9223372036854775807 := by decide
  have HB0 := hid (Below.refl w.heap.size w)
  have HBEST := HFOLL
  clear ho hR hv hFO
  have HNO : Hid (∀ u, FO = some u → u ≠ tg) := hid (fun u hu e => by
    subst e
    have := (HBEST.out hu).1
    omega)
  go_enter Tryd.func3, Tryd.ntmps3
  go_upto_region 15 with (first
    | (go_at_call 7; first
       | ((with_reducible refine (HRT.out _ (HRU.out _ HB0.out)).mono ?_); rintro e w1 ⟨v1, rfl, hv1, hb1⟩; have HV1 := hid hv1; have HB1 := hid hb1; clear hv1 hb1)
       | ((with_reducible refine (HRB.out _ (HRU.out _ HB3.out)).mono ?_); rintro e w4 ⟨vB, rfl, hv4, hb4⟩; have HV4 := hid hv4; have HB4 := hid (HB3.out.trans (hb4.mono HB3.out.size)); have HVL4 := hid (rdI_below HV13.out hb4); clear hv4 hb4))
    | (go_at_call 8; (with_reducible refine (HRR.out _).mono ?_); rintro e w2 ⟨v2, rfl, hv2, hb2⟩; have HV2 := hid hv2; have HV12 := hid (rdI_below HV1.out hb2); have HB2 := hid (HB1.out.trans (hb2.mono HB1.out.size)); clear hv2 hb2)
    | (go_at_call 9; (with_reducible refine (HSM.out _ _ _ _ HV12.out HV2.out).mono ?_); rintro e w3 ⟨rfl, hb3⟩; have HV13 := hid (rdI_below HV12.out hb3); have HB3 := hid (HB2.out.trans (hb3.mono HB2.out.size)); clear hb3)
    | (go_at_call 11; (with_reducible refine (HFF.out _ _ (HRU.out _ HB4.out) HV4.out).mono ?_); rintro e w5 ⟨rfl, hb5⟩; have HV5 := hid (rdI_below HV4.out hb5); have HVL5 := hid (rdI_below HVL4.out hb5); have HB5 := hid (HB4.out.trans (hb5.mono HB4.out.size)); clear hb5))
  have HVB := hid (fun (w' : World) (hb : Below w5.heap.size w5 w') => rdI_below HV5.out hb)
  have HVL := hid (fun (w' : World) (hb : Below w5.heap.size w5 w') => rdI_below HVL5.out hb)
  by_cases h8 : 8 < o.length
  · have h8I : (8 : Int) < (o.length : Int) := by omega
    go_wp2_with (first | (go_at_call 10; (with_reducible refine (HAW.out _ (HRU.out _ HB5.out)).mono ?_); rintro e wz ⟨rfl, hbz⟩))
    go_ret
    exact ⟨rfl, HB5.out.trans (hbz.mono HB5.out.size)⟩
  · have h8I : ¬ ((8 : Int) < (o.length : Int)) := by omega
    have HDL : Hid (o.length ≤ 8) := hid (by omega)
    have HFO8 := hid (HFOF.out (by omega))
    go_upto_region 18 with (first
    | (at_builtin; (refine wpList_append_rd rfl _ _ rfl ji jz0 jz1 jz2 w5.heap.size (.slice (some ⟨w5.heap.size, 0, none⟩) 0 0) [] (by rfl) (own_none w5) vB BG (by rfl) (rdI_below (HVB.out _ (Below.refl _ _)) ((Below.refl _ _).alloc (Nat.le_refl _) _)) (by have := HBL.out; simp only [List.length_nil]; omega) (by rw [alloc_size]; omega) ?_
                    intro vx1 wx1 hown1 hgrow1 hat1
                    have HOx1 := hid hown1
                    have HBx1 := hid (below_app (Below.refl w5.heap.size w5) hgrow1 (fun k e => by have e' : some w5.heap.size = some k := e; injection e' with e'; omega))
                    clear hown1 hgrow1 hat1))
    | (at_builtin; (refine wpList_append_rd rfl _ _ rfl ji jz0 jz1 jz2 w5.heap.size vx1 ([] ++ BG) (by rfl) HOx1.out (.slice ao o.length capo) o (by rfl) (rdI_below (HVO.out _ HB5.out) HBx1.out) (by have := HBL.out; have := HDL.out; rw [List.nil_append]; omega) HBx1.out.size ?_
                    intro vy1 wy1 hown2 hgrow2 hat2
                    have hr2 := rdI_own hown2 (by have := HBL.out; have := HDL.out; simp only [List.nil_append, List.length_append]; unfold maxLen; omega)
                    have hb2 := HBx1.out.grown hgrow2 HBx1.out.size (fun k e => (HOx1.out.lt k e).1)
                    have HRy1 := hid hr2
                    have HBy1 := hid (HB5.out.trans (hb2.mono HB5.out.size))
                    have HBz1 := hid hb2
                    clear hown2 hgrow2 hat2 hr2 hb2))
    | (go_at_call 11; (with_reducible refine (HFO8.out _ _ (HRU.out _ HBy1.out) HRy1.out).mono ?_); rintro e w8 ⟨rfl, hb3⟩; have HB8 := hid (HBy1.out.trans (hb3.mono HBy1.out.size)); have HB8k := hid (HBz1.out.trans (hb3.mono HBz1.out.size)); clear hb3))
    cases FO with
    | none =>
      go_wp2_with (first | (go_at_call 10; (with_reducible refine (HAW.out _ (HRU.out _ HB8.out)).mono ?_); rintro e wz ⟨rfl, hbz⟩))
      go_ret
      exact ⟨rfl, HB8.out.trans (hbz.mono HB8.out.size)⟩
    | some u =>
      have hu : ¬ (u = tg) := HNO.out u rfl
      have huK : (u == tg) = false := by simpa using hu
      go_wp2_with (first | (go_at_call 10; (with_reducible refine (HAW.out _ (HRU.out _ HB8.out)).mono ?_); rintro e wz ⟨rfl, hbz⟩))
      go_ret
      exact ⟨rfl, HB8.out.trans (hbz.mono HB8.out.size)⟩
set_option maxHeartbeats 16000000 in
set_option maxRecDepth 100000 in
theorem routes_some (fr tg : Int) (v : Value) (o : List Int) (ho : oor fr tg = false) (hE : rte fr tg = 0) (w : World) (hR : Rules w) (hv : RdI w v o) : Calls Tryd.prog 3 #[.int .i64 fr, .int .i64 tg, v] w fun e w' => e = .returned (.bool true) ∧ Below w.heap.size w w' := by
  have hpos := hR.pos
  have hin : 1 ≤ fr ∧ fr ≤ 4 ∧ 1 ≤ tg ∧ tg ≤ 4 := by
    unfold oor at ho
    simp at ho
    omega
  obtain ⟨n1, n2, n3, n4⟩ := hin
  obtain ⟨j0, ji, jz0, jz1, jz2⟩ := info_parts info3
  have HRU := hid (fun (w' : World) (hb : Below w.heap.size w w') => hR.below hpos hb)
  have HVO := hid (fun (w' : World) (hb : Below w.heap.size w w') => rdI_below hv hb)
  have HRT := hid (fun w h => route_any fr tg w h)
  have HRR := hid (fun w => rroute_any fr tg w)
  have HRB := hid (fun w h => route_any 1 fr w h)
  have HSM : Hid (∀ (v1 v2 : Value) (l : List Int) (w : World), RdI w v1 l → RdI w v2 l → Calls Tryd.prog 9 #[v1, v2] w fun e w' => e = .returned (.bool true) ∧ Below w.heap.size w w') := hid (fun v1 v2 l w h1 h2 => by have := same_any v1 v2 l l w h1 h2; rwa [decide_eq_true rfl] at this)
  have HAW := hid (fun w h => awake_any w h)
  rw [hE] at HRT HRR
  rw [(rte_begin n1 n2).1] at HRB
  have HBL := hid (rtl_len (fr := 1) (tg := fr))
  have HLL := hid (rtl_len (fr := fr) (tg := tg))
  have HFOLB := hid (fol_begin n1 n2)
  have HFOLR := hid (fun h => fol_route n1 n2 n3 n4 h)
  have HFOLL := hid (fun (h : fol fr o = some tg) => best n1 n2 n3 n4 h)
  rw [hE] at HFOLL
  generalize rtl fr tg = LR at *
  generalize rtl 1 fr = BG at *
  generalize hFO : fol fr o = FO at *
  have HFF := hid (fun (x : Value) (w' : World) hr hx => (follow_any x BG (by have := HBL.out; omega) w' hr hx))
  rw [HFOLB.out] at HFF
  have HFOF : Hid (o.length ≤ 8 → ∀ (x : Value) (w' : World), Rules w' → RdI w' x (([] ++ BG) ++ o) → Calls Tryd.prog 11 #[x] w' fun e w'' => e = .returned (.tuple #[.int .i64 (FO.getD 0), .bool FO.isSome]) ∧ Below w'.heap.size w' w'') := hid (fun h8 x w' hr hx => by
    have := follow_any x _ (by have := HBL.out; simp only [List.nil_append, List.length_append]; omega) w' hr hx
    rw [List.nil_append, fol_append, HFOLB.out] at this
    have e2 : (some fr).bind (fun u => fol u o) = FO := hFO
    rw [e2] at this
    exact this)
  have hoc : o.length ≤ maxLen := by obtain ⟨_, _, _, _, h, _⟩ := hv; exact h
  obtain ⟨ao, capo, rfl, -, -, -⟩ := id hv
  have hM : maxLen ≤ 9223372036854775807 := by decide
  have HB0 := hid (Below.refl w.heap.size w)
  have HBEST := HFOLL
  clear ho hR hv hFO
  have HFR : Hid (∀ (x : Value) (w' : World), Rules w' → RdI w' x (([] ++ BG) ++ LR) → Calls Tryd.prog 11 #[x] w' fun e w'' => e = .returned (.tuple #[.int .i64 tg, .bool true]) ∧ Below w'.heap.size w' w'') := hid (fun x w' hr hx => by
    have := follow_any x _ (by have := HBL.out; have := HLL.out; simp only [List.nil_append, List.length_append]; omega) w' hr hx
    rw [List.nil_append, fol_append, HFOLB.out] at this
    have e2 : (some fr).bind (fun u => fol u LR) = some tg := HFOLR.out hE
    rw [e2] at this
    exact this)
  go_enter Tryd.func3, Tryd.ntmps3
  go_upto_region 12 with (first
    | (go_at_call 7; first
       | ((with_reducible refine (HRT.out _ (HRU.out _ HB0.out)).mono ?_); rintro e w1 ⟨v1, rfl, hv1, hb1⟩; have HV1 := hid hv1; have HB1 := hid hb1; clear hv1 hb1)
       | ((with_reducible refine (HRB.out _ (HRU.out _ HB3.out)).mono ?_); rintro e w4 ⟨vB, rfl, hv4, hb4⟩; have HV4 := hid hv4; have HB4 := hid (HB3.out.trans (hb4.mono HB3.out.size)); have HVL4 := hid (rdI_below HV13.out hb4); clear hv4 hb4))
    | (go_at_call 8; (with_reducible refine (HRR.out _).mono ?_); rintro e w2 ⟨v2, rfl, hv2, hb2⟩; have HV2 := hid hv2; have HV12 := hid (rdI_below HV1.out hb2); have HB2 := hid (HB1.out.trans (hb2.mono HB1.out.size)); clear hv2 hb2)
    | (go_at_call 9; (with_reducible refine (HSM.out _ _ _ _ HV12.out HV2.out).mono ?_); rintro e w3 ⟨rfl, hb3⟩; have HV13 := hid (rdI_below HV12.out hb3); have HB3 := hid (HB2.out.trans (hb3.mono HB2.out.size)); clear hb3)
    | (go_at_call 11; (with_reducible refine (HFF.out _ _ (HRU.out _ HB4.out) HV4.out).mono ?_); rintro e w5 ⟨rfl, hb5⟩; have HV5 := hid (rdI_below HV4.out hb5); have HVL5 := hid (rdI_below HVL4.out hb5); have HB5 := hid (HB4.out.trans (hb5.mono HB4.out.size)); clear hb5))
  have HVB := hid (fun (w' : World) (hb : Below w5.heap.size w5 w') => rdI_below HV5.out hb)
  have HVL := hid (fun (w' : World) (hb : Below w5.heap.size w5 w') => rdI_below HVL5.out hb)
  have HDL := HLL
  go_upto_region 15 with (first
    | (at_builtin; (refine wpList_append_rd rfl _ _ rfl ji jz0 jz1 jz2 w5.heap.size (.slice (some ⟨w5.heap.size, 0, none⟩) 0 0) [] (by rfl) (own_none w5) vB BG (by rfl) (rdI_below (HVB.out _ (Below.refl _ _)) ((Below.refl _ _).alloc (Nat.le_refl _) _)) (by have := HBL.out; simp only [List.length_nil]; omega) (by rw [alloc_size]; omega) ?_
                    intro vx1 wx1 hown1 hgrow1 hat1
                    have HOx1 := hid hown1
                    have HBx1 := hid (below_app (Below.refl w5.heap.size w5) hgrow1 (fun k e => by have e' : some w5.heap.size = some k := e; injection e' with e'; omega))
                    clear hown1 hgrow1 hat1))
    | (at_builtin; (refine wpList_append_rd rfl _ _ rfl ji jz0 jz1 jz2 w5.heap.size vx1 ([] ++ BG) (by rfl) HOx1.out v1 LR (by rfl) (rdI_below (HVL.out _ (Below.refl _ _)) HBx1.out) (by have := HBL.out; have := HDL.out; rw [List.nil_append]; omega) HBx1.out.size ?_
                    intro vy1 wy1 hown2 hgrow2 hat2
                    have hr2 := rdI_own hown2 (by have := HBL.out; have := HDL.out; simp only [List.nil_append, List.length_append]; unfold maxLen; omega)
                    have hb2 := HBx1.out.grown hgrow2 HBx1.out.size (fun k e => (HOx1.out.lt k e).1)
                    have HRy1 := hid hr2
                    have HBy1 := hid (HB5.out.trans (hb2.mono HB5.out.size))
                    have HBz1 := hid hb2
                    clear hown2 hgrow2 hat2 hr2 hb2))
    | (go_at_call 11; (with_reducible refine (HFR.out _ _ (HRU.out _ HBy1.out) HRy1.out).mono ?_); rintro e w8 ⟨rfl, hb3⟩; have HB8 := hid (HBy1.out.trans (hb3.mono HBy1.out.size)); have HB8k := hid (HBz1.out.trans (hb3.mono HBz1.out.size)); clear hb3))
  clear HDL
  by_cases h8 : 8 < o.length
  · have h8I : (8 : Int) < (o.length : Int) := by omega
    go_wp2_with (first | (go_at_call 10; (with_reducible refine (HAW.out _ (HRU.out _ HB8.out)).mono ?_); rintro e wz ⟨rfl, hbz⟩))
    go_ret
    exact ⟨rfl, HB8.out.trans (hbz.mono HB8.out.size)⟩
  · have h8I : ¬ ((8 : Int) < (o.length : Int)) := by omega
    have HDL : Hid (o.length ≤ 8) := hid (by omega)
    have HFO8 := hid (HFOF.out (by omega))
    go_upto_region 18 with (first
    | (at_builtin; (refine wpList_append_rd rfl _ _ rfl ji jz0 jz1 jz2 w8.heap.size (.slice (some ⟨w8.heap.size, 0, none⟩) 0 0) [] (by rfl) (own_none w8) vB BG (by rfl) (rdI_below (HVB.out _ HB8k.out) ((Below.refl _ _).alloc (Nat.le_refl _) _)) (by have := HBL.out; simp only [List.length_nil]; omega) (by rw [alloc_size]; omega) ?_
                    intro vx2 wx2 hown1 hgrow1 hat1
                    have HOx2 := hid hown1
                    have HBx2 := hid (below_app (Below.refl w8.heap.size w8) hgrow1 (fun k e => by have e' : some w8.heap.size = some k := e; injection e' with e'; omega))
                    clear hown1 hgrow1 hat1))
    | (at_builtin; (refine wpList_append_rd rfl _ _ rfl ji jz0 jz1 jz2 w8.heap.size vx2 ([] ++ BG) (by rfl) HOx2.out (.slice ao o.length capo) o (by rfl) (rdI_below (HVO.out _ HB8.out) HBx2.out) (by have := HBL.out; have := HDL.out; rw [List.nil_append]; omega) HBx2.out.size ?_
                    intro vy2 wy2 hown2 hgrow2 hat2
                    have hr2 := rdI_own hown2 (by have := HBL.out; have := HDL.out; simp only [List.nil_append, List.length_append]; unfold maxLen; omega)
                    have hb2 := HBx2.out.grown hgrow2 HBx2.out.size (fun k e => (HOx2.out.lt k e).1)
                    have HRy2 := hid hr2
                    have HBy2 := hid (HB8.out.trans (hb2.mono HB8.out.size))
                    have HBz2 := hid hb2
                    clear hown2 hgrow2 hat2 hr2 hb2))
    | (go_at_call 11; (with_reducible refine (HFO8.out _ _ (HRU.out _ HBy2.out) HRy2.out).mono ?_); rintro e w9 ⟨rfl, hb3⟩; have HB9 := hid (HBy2.out.trans (hb3.mono HBy2.out.size)); have HB9k := hid (HBz2.out.trans (hb3.mono HBz2.out.size)); clear hb3))
    cases FO with
    | none =>
      go_wp2_with (first | (go_at_call 10; (with_reducible refine (HAW.out _ (HRU.out _ HB9.out)).mono ?_); rintro e wz ⟨rfl, hbz⟩))
      go_ret
      exact ⟨rfl, HB9.out.trans (hbz.mono HB9.out.size)⟩
    | some u =>
      by_cases hu : u = tg
      · subst hu
        obtain ⟨_, hb1, hb2⟩ := HBEST.out rfl
        have HLT := hid hb2
        clear hb2
        obtain ⟨a1, cap1, rfl, -, -, -⟩ := id (HVL.out _ HB8k.out)
        have hgeI : (LR.length : Int) ≤ (o.length : Int) := by omega
        by_cases hgt : LR.length < o.length
        · have hgtI : (LR.length : Int) < (o.length : Int) := by omega
          go_wp2_with (first | (go_at_call 10; (with_reducible refine (HAW.out _ (HRU.out _ HB9.out)).mono ?_); rintro e wz ⟨rfl, hbz⟩))
          go_ret
          exact ⟨rfl, HB9.out.trans (hbz.mono HB9.out.size)⟩
        · have hgtI : ¬ ((LR.length : Int) < (o.length : Int)) := by omega
          have HLS := hid (fun (w' : World) hx hy => less_any (.slice ao o.length capo) (.slice a1 LR.length cap1) o LR (by omega) (by have := HDL.out; omega) w' hx hy)
          rw [HLT.out (by omega)] at HLS
          have HVOx := hid (HVO.out _ HB9.out)
          have HVLx := hid (rdI_below (HVL.out _ HB8k.out) HB9k.out)
          go_wp2_with (first
            | (go_at_call 12; (with_reducible refine (HLS.out _ HVOx.out HVLx.out).mono ?_); rintro e w10 ⟨rfl, hb10⟩; have HB10 := hid (HB9.out.trans (hb10.mono HB9.out.size)); clear hb10)
            | (go_at_call 10; (with_reducible refine (HAW.out _ (HRU.out _ HB10.out)).mono ?_); rintro e wz ⟨rfl, hbz⟩))
          go_ret
          exact ⟨rfl, HB10.out.trans (hbz.mono HB10.out.size)⟩
      · have huK : (u == tg) = false := by simpa using hu
        go_wp2_with (first | (go_at_call 10; (with_reducible refine (HAW.out _ (HRU.out _ HB9.out)).mono ?_); rintro e wz ⟨rfl, hbz⟩))
        go_ret
        exact ⟨rfl, HB9.out.trans (hbz.mono HB9.out.size)⟩
theorem routes_walk (fr tg : Int) (v : Value) (o : List Int) (w : World) (hR : Rules w) (hv : RdI w v o) : Calls Tryd.prog 3 #[.int .i64 fr, .int .i64 tg, v] w fun e w' => e = .returned (.bool true) ∧ Below w.heap.size w w' := by
  by_cases ho : oor fr tg = true
  · exact routes_out fr tg v ho w hR
  · have ho' : oor fr tg = false := by simpa using ho
    rcases rte_in ho' with hE | hE
    · exact routes_some fr tg v o ho' hE w hR hv
    · exact routes_none fr tg v o ho' hE w hR hv
end Go.Proofs.YthklehpekglohaaDoor
