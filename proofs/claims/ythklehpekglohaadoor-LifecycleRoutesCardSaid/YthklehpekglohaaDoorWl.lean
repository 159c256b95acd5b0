/- Walks: the reference's walk and Route. -/
import Derived.Test.YthklehpekglohaaDoorWh
namespace Go.Proofs.YthklehpekglohaaDoor
open Go.RowKit
set_option linter.unusedVariables false
set_option linter.unusedSimpArgs false
/-- the first of the transitions behind which the rest leads there -/
def wkl (f : Int → Option (List Int)) (s : Int) : List Int → Option (List Int)
  | [] => none
  | t :: r => match f (nx s t true).1 with
    | some l => some (t :: l)
    | none => wkl f s r
/-- the first way of so many transitions -/
def wk (tg : Int) : Nat → Int → Option (List Int)
  | 0, s => if s = tg then some [] else none
  | n + 1, s => wkl (wk tg n) s (alwN s 5)
theorem wkl_len {f : Int → Option (List Int)} {n : Nat} (hf : ∀ s l, f s = some l → l.length = n) {s : Int} : ∀ {L l : List Int}, wkl f s L = some l → l.length = n + 1
  | [], l, h => by cases h
  | t :: r, l, h => by
    unfold wkl at h
    split at h
    · rename_i l' hl
      injection h with h
      subst h
      rw [List.length_cons, hf _ _ hl]
    · exact wkl_len hf h
theorem wk_len (tg : Int) : ∀ n s l, wk tg n s = some l → l.length = n
  | 0, s, l, h => by
    unfold wk at h
    split at h
    · injection h with h
      subst h
      rfl
    · cases h
  | n + 1, s, l, h => wkl_len (wk_len tg n) h
/-- what is shown of the walk of n transitions -/
def WkC (tg : Int) (n : Nat) : Prop := ∀ (s : Int) (w : World), Calls Tryd.prog 33 #[.int .i64 s, .int .i64 tg, .int .i64 n] w fun e w' => ∃ v, e = .returned (.tuple #[v, .bool (wk tg n s).isSome]) ∧ RdI w' v ((wk tg n s).getD []) ∧ Below w.heap.size w w'
theorem rd_nil (w : World) : RdI w (.slice none 0 0) [] := ⟨none, 0, rfl, Nat.le_refl _, Nat.zero_le _, fun h => absurd h (by simp)⟩
theorem wk_zero (tg : Int) : WkC tg 0 := by
  intro s w
  have e : (wk tg 0 s).isSome = decide (s = tg) := by
    unfold wk
    split <;> simp [*]
  have e2 : (wk tg 0 s).getD [] = [] := by
    unfold wk
    split <;> rfl
  rw [e, e2]
  go_enter Tryd.func33, Tryd.ntmps33
  by_cases h : s = tg
  · subst h
    go_wp2_with fail
    refine bodyPost_ret (v := .tuple #[.slice none 0 0, .bool true]) (by simp [results, Tryd.results33, go_sem]) rfl ?_
    exact ⟨_, by simp, rd_nil _, Below.refl _ _⟩
  · go_wp2_with fail
    refine bodyPost_ret (v := .tuple #[.slice none 0 0, .bool false]) (by simp [results, Tryd.results33, go_sem, h]) rfl ?_
    exact ⟨_, by simp [h], rd_nil _, Below.refl _ _⟩
theorem own_one (w : World) (a : Int) (fz : Nat × Nat) (hf : fz = (0, 0) := by rfl) : (w.alloc (.cells #[.int .i64 a] 3 fz)).ownsRow w.heap.size 3 1 (.slice (some ⟨w.heap.size, 0, none⟩) 1 1) ([a] : List Int).length (ints [a]) := by
  subst hf
  refine ⟨rfl, .inr ⟨w.heap.size, 1, #[.int .i64 a], rfl, Nat.le_refl _, ?_, Nat.le_refl _, by decide, rfl, rfl⟩⟩
  show (w.heap.push _)[w.heap.size]? = _
  simp
set_option maxHeartbeats 8000000 in
set_option maxRecDepth 100000 in
theorem wk_succ (tg : Int) (n : Nat) (hn : n < 100) (H : WkC tg n) : WkC tg (n + 1) := by
  intro s w
  obtain ⟨j0, ji, jz0, jz1, jz2⟩ := info_parts info3
  have HH := hid H
  have HA := hid (fun w => rallowed_any s w)
  have HNX := hid (fun t w => rnext_any s t true w)
  have HLN := hid (fun l h => wk_len tg (n + 1) s l h)
  have hL5 : (alwN s 5).length ≤ 5 := alwN_len s 5
  have HWK : Hid (wk tg (n + 1) s = wkl (wk tg n) s (alwN s 5)) := hid rfl
  have hnI : ¬ (((n : Int) + 1) = 0) := by omega
  have hnK : ((((n : Int) + 1) == 0)) = false := by simpa using hnI
  have hnJ : (n : Int) < 100 := by omega
  have hnJ0 : (0 : Int) ≤ n := by omega
  clear H
  have e0 : ((n + 1 : Nat) : Int) = (n : Int) + 1 := by omega
  rw [e0]
  clear e0
  generalize hR : wk tg (n + 1) s = R at *
  generalize alwN s 5 = L at *
  clear hR
  go_enter Tryd.func33, Tryd.ntmps33
  go_upto_region 5 with (first
    | (go_at_call 26; (with_reducible refine (HA.out _).mono ?_); rintro e w1 ⟨v1, rfl, hv1, hb1⟩; have HV := hid (rdI_own hv1 (by unfold maxLen; omega)); clear hv1))
  obtain ⟨a, cap, rfl, hcL, hmL, hrL⟩ := HV.out
  have HRL := hid hrL
  clear HV hrL
  have hs1 := hb1.size
  go_loopw [9, 10, 11, 12, 13] (fun s9 s10 s11 s12 s13 wr => ∃ k : Nat, s9 = .int .i64 k ∧ k ≤ L.length ∧ Hid (wkl (wk tg n) s (L.drop k) = R) ∧ Below w1.heap.size w1 wr) (fun s9 _ _ _ _ _ => L.length - (intOf s9).toNat)
  case atStart => exact ⟨0, rfl, Nat.zero_le _, hid HWK.out.symm, Below.refl _ _⟩
  case round =>
    obtain ⟨k, rfl, hk, HK, hb2⟩ := hrel
    have hs2 := hb2.size
    by_cases hkT : k < L.length
    · obtain ⟨gL, oL, rfl, hgL, hLc⟩ := HRL.out (by omega)
      have gk : L[k]? = some L[k] := by simp [hkT]
      have HD : Hid (wkl (wk tg n) s (L[k] :: L.drop (k + 1)) = R) := hid (by have := HK.out; rwa [List.drop_eq_getElem_cons hkT] at this)
      have m1 := hLc k _ gk
      have c0 : wr.cell? ⟨gL, oL + k, none⟩ = some (.int .i64 L[k]) := (hb2.cell hgL).trans m1
      have HM1 : Hid (∀ w', Below wr.heap.size wr w' → w'.cell? ⟨gL, oL + k, none⟩ = some (.int .i64 L[k])) := hid (fun w' hb => (hb.cell (by dsimp only; omega)).trans c0)
      have HN := hid (HNX.out L[k] wr)
      clear m1 gk hLc
      generalize L[k] = T at *
      have hkI : (k : Int) < (L.length : Int) := by omega
      have hkI0 : (0 : Int) ≤ (k : Int) := by omega
      have HW := hid (HH.out (nx s T true).1)
      have HLn := hid (fun l h => wk_len tg n (nx s T true).1 l h)
      have HD2 : Hid ((match wk tg n (nx s T true).1 with | some l => some (T :: l) | none => wkl (wk tg n) s (L.drop (k + 1))) = R) := hid HD.out
      clear HD
      generalize (nx s T true).1 = S' at *
      generalize (nx s T true).2 = E' at *
      have hB0 := hb1.trans (hb2.mono hs1)
      cases hw : wk tg n S' with
      | none =>
        rw [hw] at HW HD2
        go_wp2_with (first
          | (go_at_call 24; (with_reducible refine (HN.out).mono ?_); rintro e w3 ⟨rfl, rfl⟩)
          | (go_at_call 33; (with_reducible refine (HW.out _).mono ?_); rintro e w4 ⟨v4, rfl, hv4, hb4⟩))
        go_roundw
        case rel => exact ⟨k + 1, by go_num, by omega, hid HD2.out, hb2.trans (hb4.mono hs2)⟩
        case measure => simp [intOf]; omega
      | some l =>
        rw [hw] at HW HD2
        have hR : some (T :: l) = R := HD2.out
        subst hR
        have hll : l.length = n := HLn.out l hw
        clear hw
        go_wp2_with (first
          | (go_at_call 24; (with_reducible refine (HN.out).mono ?_); rintro e w3 ⟨rfl, rfl⟩)
          | (go_at_call 33; (with_reducible refine (HW.out _).mono ?_); rintro e w4 ⟨v4, rfl, hv4, hb4⟩; have HV4 := hid hv4; have d0 := HM1.out _ hb4; clear hv4)
          | (at_builtin; (refine wpList_append_rd rfl _ _ rfl ji jz0 jz1 jz2 w4.heap.size (.slice (some ⟨w4.heap.size, 0, none⟩) 1 1) [T] (by rfl) (own_one w4 T _) v4 l (by rfl) (rdI_below HV4.out ((Below.refl _ _).alloc (Nat.le_refl _) _)) (by simp only [List.length_cons, List.length_nil]; omega) (by rw [alloc_size]; omega) ?_
                          intro v5 w5 hown5 hgrow5 hat5
                          have HG5 := hid hgrow5
                          have HO5 := hid hown5
                          clear hgrow5 hown5)))
        refine bodyPost_ret (v := .tuple #[v5, .bool true]) (by simp [results, Tryd.results33, go_sem]) rfl ?_
        exact ⟨_, rfl, rdI_own HO5.out (by unfold maxLen; simp; omega), hB0.trans ((below_app hb4 HG5.out (fun j e => by have e' : some w4.heap.size = some j := e; injection e' with e'; have := hb4.size; omega)).mono hB0.size)⟩
    · obtain rfl : k = L.length := by omega
      have hR : none = R := by have := HK.out; rw [List.drop_length] at this; exact this
      subst hR
      go_wp2_with fail
      refine bodyPost_ret (v := .tuple #[.slice none 0 0, .bool false]) (by simp [results, Tryd.results33, go_sem]) rfl ?_
      exact ⟨_, rfl, rd_nil _, hb1.trans (hb2.mono hs1)⟩
theorem wk_any (tg : Int) : ∀ n, n ≤ 100 → WkC tg n
  | 0, _ => wk_zero tg
  | n + 1, h => wk_succ tg n (by omega) (wk_any tg n (by omega))
theorem rt_wk {fr tg : Int} (h1 : 1 ≤ fr) (h2 : fr ≤ 4) (h3 : 1 ≤ tg) (h4 : tg ≤ 4) : rt fr tg = (match wk tg 0 fr with | some l => some l | none => match wk tg 1 fr with | some l => some l | none => match wk tg 2 fr with | some l => some l | none => wk tg 3 fr) := by
  rcases four h1 h2 with rfl | rfl | rfl | rfl <;> rcases four h3 h4 with rfl | rfl | rfl | rfl <;> rfl
theorem rt_at {fr tg : Int} (h1 : 1 ≤ fr) (h2 : fr ≤ 4) (h3 : 1 ≤ tg) (h4 : tg ≤ 4) {k : Nat} (hk : k < 4) (hn : ∀ j, j < k → wk tg j fr = none) {l : List Int} (hl : wk tg k fr = some l) : rt fr tg = some l := by
  rw [rt_wk h1 h2 h3 h4]
  have hk' : k = 0 ∨ k = 1 ∨ k = 2 ∨ k = 3 := by omega
  rcases hk' with rfl | rfl | rfl | rfl
  · rw [hl]
  · rw [hn 0 (by omega), hl]
  · rw [hn 0 (by omega), hn 1 (by omega), hl]
  · rw [hn 0 (by omega), hn 1 (by omega), hn 2 (by omega), hl]
theorem rt_not {fr tg : Int} (h1 : 1 ≤ fr) (h2 : fr ≤ 4) (h3 : 1 ≤ tg) (h4 : tg ≤ 4) (hn : ∀ j, j < 4 → wk tg j fr = none) : rt fr tg = none := by
  rw [rt_wk h1 h2 h3 h4, hn 0 (by omega), hn 1 (by omega), hn 2 (by omega), hn 3 (by omega)]
set_option maxHeartbeats 8000000 in
set_option maxRecDepth 100000 in
theorem rroute_in (fr tg : Int) (h1 : 1 ≤ fr) (h2 : fr ≤ 4) (h3 : 1 ≤ tg) (h4 : tg ≤ 4) (w : World) : Calls Tryd.prog 8 #[.int .i64 fr, .int .i64 tg] w fun e w' => ∃ v, e = .returned (.tuple #[v, .int .i64 (if (rt fr tg).isSome then 0 else 6)]) ∧ RdI w' v ((rt fr tg).getD []) ∧ Below w.heap.size w w' := by
  have hc1 : (decide (1 ≤ fr) && decide (fr ≤ 4)) = true := by simp; omega
  have hc2 : (decide (1 ≤ tg) && decide (tg ≤ 4)) = true := by simp; omega
  have H31a : Hid (∀ w, Calls Tryd.prog 32 #[.int .i64 fr] w fun e w' => e = .returned (.bool true) ∧ w = w') := hid (fun w => by have := st32 fr w; rwa [hc1] at this)
  have H31b : Hid (∀ w, Calls Tryd.prog 32 #[.int .i64 tg] w fun e w' => e = .returned (.bool true) ∧ w = w') := hid (fun w => by have := st32 tg w; rwa [hc2] at this)
  have HW := hid (fun (n : Nat) (hn : n ≤ 100) => wk_any tg n hn fr)
  have HAT := hid (fun (k : Nat) (hk : k < 4) hn l hl => rt_at h1 h2 h3 h4 (k := k) hk hn (l := l) hl)
  have HNT := hid (fun hn => rt_not h1 h2 h3 h4 hn)
  generalize hR : rt fr tg = R at *
  clear hR hc1 hc2 h1 h2 h3 h4
  go_enter Tryd.func8, Tryd.ntmps8
  go_wp2_with (first
    | (go_at_call 32; first | ((with_reducible refine (H31a.out _).mono ?_); rintro e w1 ⟨rfl, rfl⟩) | ((with_reducible refine (H31b.out _).mono ?_); rintro e w1 ⟨rfl, rfl⟩)))
  go_loopw [6, 7, 8] (fun s6 s7 s8 wr => ∃ k : Nat, s6 = .int .i64 k ∧ k ≤ 4 ∧ Hid (∀ j, j < k → wk tg j fr = none) ∧ Below w.heap.size w wr) (fun s6 _ _ _ => 4 - (intOf s6).toNat)
  case atStart => exact ⟨0, rfl, by omega, hid (fun j hj => absurd hj (by omega)), Below.refl _ _⟩
  case round =>
    obtain ⟨k, rfl, hk, HN, hb⟩ := hrel
    have hs := hb.size
    by_cases hkT : k < 4
    · have hkI : (k : Int) < 4 := by omega
      have hkI0 : (0 : Int) ≤ k := by omega
      have HC := hid (HW.out k (by omega))
      cases hw : wk tg k fr with
      | none =>
        rw [hw] at HC
        have HN2 : Hid (∀ j, j < k + 1 → wk tg j fr = none) := hid (fun j hj => by
          by_cases e : j = k
          · rw [e]; exact hw
          · exact HN.out j (by omega))
        clear hw
        go_wp2_with (first
          | (go_at_call 33; (with_reducible refine (HC.out _).mono ?_); rintro e w4 ⟨v4, rfl, hv4, hb4⟩))
        go_roundw
        case rel => exact ⟨k + 1, by go_num, by omega, HN2, hb.trans (hb4.mono hs)⟩
        case measure => simp [intOf]; omega
      | some l =>
        rw [hw] at HC
        have hR := HAT.out k hkT HN.out l hw
        subst hR
        clear hw
        go_wp2_with (first
          | (go_at_call 33; (with_reducible refine (HC.out _).mono ?_); rintro e w4 ⟨v4, rfl, hv4, hb4⟩; have HV4 := hid hv4; clear hv4))
        refine bodyPost_ret (v := .tuple #[v4, .int .i64 0]) (by simp [results, Tryd.results8, go_sem]) rfl ?_
        exact ⟨_, rfl, HV4.out, hb.trans (hb4.mono hs)⟩
    · obtain rfl : k = 4 := by omega
      have hR := HNT.out HN.out
      subst hR
      go_wp2_with fail
      refine bodyPost_ret (v := .tuple #[.slice none 0 0, .int .i64 6]) (by simp [results, Tryd.results8, go_sem]) rfl ?_
      exact ⟨_, rfl, rd_nil _, hb⟩
theorem rroute_any (fr tg : Int) (w : World) : Calls Tryd.prog 8 #[.int .i64 fr, .int .i64 tg] w fun e w' => ∃ v, e = .returned (.tuple #[v, .int .i64 (rte fr tg)]) ∧ RdI w' v (rtl fr tg) ∧ Below w.heap.size w w' := by
  unfold rte rtl
  by_cases h1 : fr < 1 ∨ 4 < fr
  · have ho : oor fr tg = true := by simp [oor]; omega
    rw [ho]
    have hc : (decide (1 ≤ fr) && decide (fr ≤ 4)) = false := by simp; omega
    have H := hid (fun w => by have := st32 fr w; rwa [hc] at this : ∀ w, Calls Tryd.prog 32 #[.int .i64 fr] w fun e w' => e = .returned (.bool false) ∧ w = w')
    clear hc ho
    go_enter Tryd.func8, Tryd.ntmps8
    go_wp2_with (first | (go_at_call 32; (with_reducible refine (H.out _).mono ?_); rintro e w1 ⟨rfl, rfl⟩))
    refine bodyPost_ret (v := .tuple #[.slice none 0 0, .int .i64 4]) (by simp [results, Tryd.results8, go_sem]) rfl ?_
    exact ⟨_, rfl, rd_nil _, Below.refl _ _⟩
  · by_cases h2 : tg < 1 ∨ 4 < tg
    · have ho : oor fr tg = true := by simp [oor]; omega
      rw [ho]
      have hc : (decide (1 ≤ fr) && decide (fr ≤ 4)) = true := by simp; omega
      have hd : (decide (1 ≤ tg) && decide (tg ≤ 4)) = false := by simp; omega
      have H := hid (fun w => by have := st32 fr w; rwa [hc] at this : ∀ w, Calls Tryd.prog 32 #[.int .i64 fr] w fun e w' => e = .returned (.bool true) ∧ w = w')
      have H2 := hid (fun w => by have := st32 tg w; rwa [hd] at this : ∀ w, Calls Tryd.prog 32 #[.int .i64 tg] w fun e w' => e = .returned (.bool false) ∧ w = w')
      clear hc hd ho
      go_enter Tryd.func8, Tryd.ntmps8
      go_wp2_with (first | (go_at_call 32; first | ((with_reducible refine (H.out _).mono ?_); rintro e w1 ⟨rfl, rfl⟩) | ((with_reducible refine (H2.out _).mono ?_); rintro e w1 ⟨rfl, rfl⟩)))
      refine bodyPost_ret (v := .tuple #[.slice none 0 0, .int .i64 4]) (by simp [results, Tryd.results8, go_sem]) rfl ?_
      exact ⟨_, rfl, rd_nil _, Below.refl _ _⟩
    · have ho : oor fr tg = false := by simp [oor]; omega
      rw [ho]
      exact rroute_in fr tg (by omega) (by omega) (by omega) (by omega) w
end Go.Proofs.YthklehpekglohaaDoor
