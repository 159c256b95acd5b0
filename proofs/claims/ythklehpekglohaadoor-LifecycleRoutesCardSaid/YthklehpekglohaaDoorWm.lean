/- Walks: follow and less, of the statement's own; the plain law of routes. -/
import Derived.Test.YthklehpekglohaaDoorWl
import Derived.Test.YthklehpekglohaaDoorWj
namespace Go.Proofs.YthklehpekglohaaDoor
open Go.RowKit
set_option linter.unusedVariables false
set_option linter.unusedSimpArgs false
/-- where successful transitions lead -/
def fol : Int → List Int → Option Int
  | s, [] => some s
  | s, t :: r => if (nx s t true).2 = 0 then fol (nx s t true).1 r else none
theorem fol_append : ∀ (a b : List Int) (s : Int), fol s (a ++ b) = (fol s a).bind fun u => fol u b
  | [], b, s => rfl
  | t :: r, b, s => by
    show (if _ then _ else _) = Option.bind (if _ then _ else _) _
    split
    · exact fol_append r b _
    · rfl
/-- lexicographically smaller, for lists of equal length -/
def lss : List Int → List Int → Bool
  | x :: a, y :: b => if x = y then lss a b else decide (x < y)
  | _, _ => false
theorem nx_zero {s t : Int} (h : (nx s t true).2 = 0) : (s = 1 ∨ s = 2 ∨ s = 3 ∨ s = 4) ∧ (t = 1 ∨ t = 2 ∨ t = 3 ∨ t = 4 ∨ t = 5) := by
  by_cases h0 : s < 1 ∨ 4 < s ∨ t < 1 ∨ 5 < t
  · rw [nx_out h0] at h
    cases h
  · omega
/-- no other way is shorter, and none of equal length is smaller -/
theorem best {fr tg : Int} (h1 : 1 ≤ fr) (h2 : fr ≤ 4) (h3 : 1 ≤ tg) (h4 : tg ≤ 4) {o : List Int} (h : fol fr o = some tg) : rte fr tg = 0 ∧ (rtl fr tg).length ≤ o.length ∧ (o.length = (rtl fr tg).length → lss o (rtl fr tg) = false) := by
  have hl : (rtl fr tg).length ≤ 2 := by
    rcases four h1 h2 with rfl | rfl | rfl | rfl <;> rcases four h3 h4 with rfl | rfl | rfl | rfl <;> decide
  match o, h with
  | [], h =>
    have e : fr = tg := by injection h
    subst e
    rcases four h1 h2 with rfl | rfl | rfl | rfl <;> decide
  | [t], h =>
    have h' : (if (nx fr t true).2 = 0 then some (nx fr t true).1 else none) = some tg := h
    split at h'
    · rename_i he
      injection h' with h'
      subst h'
      obtain ⟨_, ht⟩ := nx_zero he
      rcases four h1 h2 with rfl | rfl | rfl | rfl <;> rcases ht with rfl | rfl | rfl | rfl | rfl <;> revert he <;> decide
    · cases h'
  | [t, u], h =>
    have h' : (if (nx fr t true).2 = 0 then (if (nx (nx fr t true).1 u true).2 = 0 then some (nx (nx fr t true).1 u true).1 else none) else none) = some tg := h
    split at h'
    · rename_i he
      split at h'
      · rename_i he2
        injection h' with h'
        subst h'
        obtain ⟨_, ht⟩ := nx_zero he
        obtain ⟨_, hu⟩ := nx_zero he2
        rcases four h1 h2 with rfl | rfl | rfl | rfl <;> rcases ht with rfl | rfl | rfl | rfl | rfl <;> (first | (exact absurd he (by decide)) | (clear he; rcases hu with rfl | rfl | rfl | rfl | rfl <;> revert he2 <;> decide))
      · cases h'
    · cases h'
  | t :: u :: v :: r, h =>
    have h' : (if (nx fr t true).2 = 0 then fol (nx fr t true).1 (u :: v :: r) else none) = some tg := h
    have he : (nx fr t true).2 = 0 := by
      by_cases e : (nx fr t true).2 = 0
      · exact e
      · rw [if_neg e] at h'
        cases h'
    obtain ⟨_, ht⟩ := nx_zero he
    have hr : rte fr tg = 0 := by
      clear h h' hl
      rcases four h1 h2 with rfl | rfl | rfl | rfl
      · rcases four h3 h4 with rfl | rfl | rfl | rfl <;> decide
      · rcases four h3 h4 with rfl | rfl | rfl | rfl <;> decide
      · rcases four h3 h4 with rfl | rfl | rfl | rfl <;> decide
      · rcases ht with rfl | rfl | rfl | rfl | rfl <;> exact absurd he (by decide)
    refine ⟨hr, ?_, fun e => ?_⟩
    · simp only [List.length_cons]; omega
    · simp only [List.length_cons] at e; omega
theorem fol_begin {fr : Int} (h1 : 1 ≤ fr) (h2 : fr ≤ 4) : fol 1 (rtl 1 fr) = some fr := by
  rcases four h1 h2 with rfl | rfl | rfl | rfl <;> decide
theorem fol_route {fr tg : Int} (h1 : 1 ≤ fr) (h2 : fr ≤ 4) (h3 : 1 ≤ tg) (h4 : tg ≤ 4) (h : rte fr tg = 0) : fol fr (rtl fr tg) = some tg := by
  rcases four h1 h2 with rfl | rfl | rfl | rfl <;> rcases four h3 h4 with rfl | rfl | rfl | rfl <;> revert h <;> decide
theorem rte_begin {fr : Int} (h1 : 1 ≤ fr) (h2 : fr ≤ 4) : rte 1 fr = 0 ∧ (rtl 1 fr).length ≤ 2 := by
  rcases four h1 h2 with rfl | rfl | rfl | rfl <;> decide
theorem rte_out {fr tg : Int} (h : oor fr tg = true) : rte fr tg = 4 := by
  unfold rte
  rw [if_pos h]
theorem rte_in {fr tg : Int} (h : oor fr tg = false) : rte fr tg = 0 ∨ rte fr tg = 6 := by
  unfold rte
  rw [if_neg (by simp [h])]
  split
  · exact Or.inl rfl
  · exact Or.inr rfl
theorem rtl_len {fr tg : Int} : (rtl fr tg).length ≤ 2 := by
  by_cases h : oor fr tg = true
  · unfold rtl
    rw [if_pos h]
    simp
  · have h' : oor fr tg = false := by simpa using h
    unfold oor at h'
    simp at h'
    obtain ⟨⟨⟨q1, q2⟩, q3⟩, q4⟩ := h'
    rcases four (s := fr) (by omega) (by omega) with rfl | rfl | rfl | rfl <;> rcases four (s := tg) (by omega) (by omega) with rfl | rfl | rfl | rfl <;> decide
set_option maxHeartbeats 8000000 in
set_option maxRecDepth 100000 in
theorem follow_any (v : Value) (l : List Int) (hl : l.length ≤ 1000) (w : World) (hR : Rules w) (hv : RdI w v l) : Calls Tryd.prog 11 #[v] w fun e w' => e = .returned (.tuple #[.int .i64 ((fol 1 l).getD 0), .bool (fol 1 l).isSome]) ∧ Below w.heap.size w w' := by
  have hpos := hR.pos
  have HR := hid hR
  obtain ⟨a, cap, rfl, -, -, hr⟩ := hv
  have HRL := hid hr
  clear hR hr
  generalize hRr : fol 1 l = R at *
  have HRr := hid hRr
  clear hRr
  go_enter Tryd.func11, Tryd.ntmps11
  go_upto_region 5 with (first
    | (go_at_call 13; (with_reducible refine (new_any _).mono ?_); rintro e w1 ⟨g, h, rfl, hg, hh, hm, hb1⟩; have HM1 := hid hm; clear hm))
  go_loopw [5] (fun s5 wr => ∃ (k h' cap' : Nat) (s : Int) (hs : List Int), s5 = .int .i64 k ∧ k ≤ l.length ∧ Hid (Mc wr g h' cap' s 0 hs) ∧ hs.length = k + 1 ∧ Hid (fol s (l.drop k) = R) ∧ Below w.heap.size w wr ∧ w.heap.size ≤ h') (fun s5 _ => l.length - (intOf s5).toNat)
  case atStart => exact ⟨0, h, 1, 1, [1], rfl, Nat.zero_le _, HM1, rfl, hid HRr.out, hb1, hh⟩
  case round =>
    clear HM1 hb1 hh
    obtain ⟨k, h', cap', s, hs, rfl, hk, HM, hlen, HF, hB, hh'⟩ := hrel
    have hsz := hB.size
    by_cases hkT : k < l.length
    · obtain ⟨gL, oL, rfl, hgL, hLc⟩ := HRL.out (by omega)
      have gk : l[k]? = some l[k] := by simp [hkT]
      have HD : Hid (fol s (l[k] :: l.drop (k + 1)) = R) := hid (by have := HF.out; rwa [List.drop_eq_getElem_cons hkT] at this)
      have m1 := hLc k _ gk
      have c0 : wr.cell? ⟨gL, oL + k, none⟩ = some (.int .i64 l[k]) := (hB.cell hgL).trans m1
      clear m1 gk hLc
      generalize l[k] = T at *
      have hkI : (k : Int) < (l.length : Int) := by omega
      have hkI0 : (0 : Int) ≤ (k : Int) := by omega
      have HRw := hid (HR.out.below hpos hB)
      by_cases he : (nx s T true).2 = 0
      · have HDo := hid (do_ok T true wr HRw.out HM.out he (by omega) (by omega) (by omega))
        have HD2 : Hid (fol (nx s T true).1 (l.drop (k + 1)) = R) := hid (by have h3 : (if (nx s T true).2 = 0 then fol (nx s T true).1 (l.drop (k + 1)) else none) = R := HD.out; rwa [if_pos he] at h3)
        clear HD he
        generalize (nx s T true).1 = S' at *
        go_wp2_with (first
          | (go_at_call 15; (with_reducible refine (HDo.out).mono ?_); rintro e w7 ⟨rfl, h7, cap7, hm7, hx7, hh7⟩; have HM7 := hid hm7; have HX7 := hid hx7; have HH7 := hid hh7; clear hm7 hx7 hh7))
        go_roundw
        case rel => exact ⟨k + 1, h7, cap7, S', hs ++ [S'], by go_num, by omega, HM7, by simp [hlen], HD2, HX7.out.below hB (by omega) (by omega) hB.size, by have := HH7.out; omega⟩
        case measure => simp [intOf]; omega
      · have HDo := hid (do_err T true wr HRw.out HM.out he)
        have hRn : none = R := by have h3 : (if (nx s T true).2 = 0 then fol (nx s T true).1 (l.drop (k + 1)) else none) = R := HD.out; rwa [if_neg he] at h3
        subst hRn
        have heK : ((nx s T true).2 == 0) = false := by simpa using he
        generalize (nx s T true).2 = E' at *
        clear HD
        go_wp2_with (first
          | (go_at_call 15; (with_reducible refine (HDo.out).mono ?_); rintro e w7 ⟨rfl, hb7⟩))
        refine bodyPost_ret (v := .tuple #[.int .i64 0, .bool false]) (by simp [results, Tryd.results11, go_sem]) rfl ?_
        exact ⟨rfl, hB.trans (hb7.mono hsz)⟩
    · obtain rfl : k = l.length := by omega
      have hR1 : some s = R := by have := HF.out; rw [List.drop_length] at this; exact this
      subst hR1
      have HST := hid (state_any wr HM.out)
      go_wp2_with (first
        | (go_at_call 17; (with_reducible refine (HST.out).mono ?_); rintro e w6 ⟨rfl, rfl⟩))
      refine bodyPost_ret (v := .tuple #[.int .i64 s, .bool true]) (by simp [results, Tryd.results11, go_sem]) rfl ?_
      exact ⟨rfl, hB⟩
set_option maxHeartbeats 8000000 in
set_option maxRecDepth 100000 in
theorem less_any (v1 v2 : Value) (l1 l2 : List Int) (hlen : l1.length = l2.length) (hl : l1.length ≤ 1000) (w : World) (h1 : RdI w v1 l1) (h2 : RdI w v2 l2) : Calls Tryd.prog 12 #[v1, v2] w fun e w' => e = .returned (.bool (lss l1 l2)) ∧ Below w.heap.size w w' := by
  obtain ⟨a1, cap1, rfl, -, hm1, hr1⟩ := h1
  obtain ⟨a2, cap2, rfl, -, hm2, hr2⟩ := h2
  have H1 := hid hr1
  have H2 := hid hr2
  clear hr1 hr2
  have hlI : (l1.length : Int) = (l2.length : Int) := by omega
  have HLSS : Hid (lss (l1.drop 0) (l2.drop 0) = lss l1 l2) := hid rfl
  generalize lss l1 l2 = R at *
  go_enter Tryd.func12, Tryd.ntmps12
  go_wp2_with fail
  go_loopw [5] (fun s5 wr => ∃ k : Nat, s5 = .int .i64 k ∧ k ≤ l1.length ∧ Hid (lss (l1.drop k) (l2.drop k) = R) ∧ Below w.heap.size w wr) (fun s5 _ => l1.length - (intOf s5).toNat)
  case atStart => exact ⟨0, rfl, Nat.zero_le _, HLSS, Below.refl _ _⟩
  case round =>
    obtain ⟨k, rfl, hk, HK, hb⟩ := hrel
    by_cases hkT : k < l1.length
    · obtain ⟨b1, o1, rfl, hbw1, hc1⟩ := H1.out (by omega)
      obtain ⟨b2, o2, rfl, hbw2, hc2⟩ := H2.out (by omega)
      have g1 : l1[k]? = some l1[k] := by simp [hkT]
      have g2 : l2[k]? = some (l2[k]'(by omega)) := by simp [show k < l2.length from by omega]
      have x1 := hc1 k _ g1
      have x2 := hc2 k _ g2
      have HD : Hid (lss (l1[k] :: l1.drop (k + 1)) (l2[k]'(by omega) :: l2.drop (k + 1)) = R) := hid (by have := HK.out; rwa [List.drop_eq_getElem_cons hkT, List.drop_eq_getElem_cons (show k < l2.length by omega)] at this)
      clear hc1 hc2 g1 g2
      generalize l1[k] = A at *
      generalize (l2[k]'(by omega)) = B at *
      have HD2 : Hid ((if A = B then lss (l1.drop (k + 1)) (l2.drop (k + 1)) else decide (A < B)) = R) := hid HD.out
      clear HD
      have hkI : (k : Int) < (l1.length : Int) := by omega
      have hkI2 : (k : Int) < (l2.length : Int) := by omega
      have hkI0 : (0 : Int) ≤ (k : Int) := by omega
      have hs := hb.size
      have r1 : ∀ (z : Later wr), z.val.cell? ⟨b1, o1 + k, none⟩ = some (.int .i64 A) := fun z => (z.cell (by omega)).trans ((hb.cell hbw1).trans x1)
      have r2 : ∀ (z : Later wr), z.val.cell? ⟨b2, o2 + k, none⟩ = some (.int .i64 B) := fun z => (z.cell (by omega)).trans ((hb.cell hbw2).trans x2)
      clear x1 x2
      go_upto_region 4 with fail
      refine wp_region_later (w0 := wr) (Below.refl _ _) (by kernel_rfl) (by kernel_rfl) ?_
      repeat (go_big_quiet_step (fail))
      refine wpQuiet_nil ?_
      intro _ hw'
      obtain ⟨y, hw''⟩ := hw'
      subst hw''
      have hby := hb.trans (y.ok.mono hs)
      by_cases hAB : A = B
      · have HD3 : Hid (lss (l1.drop (k + 1)) (l2.drop (k + 1)) = R) := hid (by have := HD2.out; rwa [if_pos hAB] at this)
        subst hAB
        clear HD2
        go_wp2_with fail
        go_roundw
        case rel => exact ⟨k + 1, by go_num, by omega, HD3, hby⟩
        case measure => simp [intOf]; omega
      · have HD3 : decide (A < B) = R := by have := HD2.out; rwa [if_neg hAB] at this
        subst HD3
        have r3 : ∀ (z : Later y.val), z.val.cell? ⟨b1, o1 + k, none⟩ = some (.int .i64 A) := fun z => (z.cell (by have := y.ok.size; omega)).trans (r1 y)
        have r4 : ∀ (z : Later y.val), z.val.cell? ⟨b2, o2 + k, none⟩ = some (.int .i64 B) := fun z => (z.cell (by have := y.ok.size; omega)).trans (r2 y)
        clear HD2
        have hABK : (A == B) = false := by simpa using hAB
        go_upto_region 5 with fail
        refine wp_region_later_tail (w0 := y.val) 9 (Below.refl _ _) (by kernel_rfl) (by kernel_rfl) ?_
        simp only [List.take_succ_cons, List.take_zero, List.drop_succ_cons, List.drop_zero]
        repeat (go_big_quiet_step (fail))
        refine wpQuiet_nil ?_
        intro _ hw'
        obtain ⟨y2, hw''⟩ := hw'
        subst hw''
        go_wp2_with fail
        go_ret
        exact ⟨rfl, hby.trans (y2.ok.mono hby.size)⟩
    · obtain rfl : k = l1.length := by omega
      have hR1 : false = R := by have := HK.out; rw [List.drop_length] at this; exact this
      subst hR1
      go_wp2_with fail
      go_ret
      exact ⟨rfl, hb⟩
end Go.Proofs.YthklehpekglohaaDoor
