/- The law LifecycleEnds, walked: it returns true. -/
import Derived.Test.YthklehpekglohaaDoorWi
namespace Go.Proofs.YthklehpekglohaaDoor
open Go.RowKit
set_option linter.unusedVariables false
set_option linter.unusedSimpArgs false
/-- a history: it begins unconfigured, ends in the state, and neighbours are the result of a transition -/
structure Good (l : List Int) (s : Int) : Prop where
  pos : 0 < l.length
  hd : l[0]? = some 1
  last : l[l.length - 1]? = some s
  r1 : 1 ≤ s
  r2 : s ≤ 4
  nb : ∀ i a b, l[i]? = some a → l[i + 1]? = some b → ∃ t ok, nx a t ok = (b, 0)
theorem nx_rng {s t : Int} {ok : Bool} (h : (nx s t ok).2 = 0) : 1 ≤ s ∧ s ≤ 3 ∧ 1 ≤ t ∧ t ≤ 5 ∧ 1 ≤ (nx s t ok).1 ∧ (nx s t ok).1 ≤ 4 := by
  by_cases h0 : s < 1 ∨ 4 < s ∨ t < 1 ∨ 5 < t
  · rw [nx_out h0] at h
    cases h
  · rcases four (s := s) (by omega) (by omega) with rfl | rfl | rfl | rfl <;> rcases five (s := t) (by omega) (by omega) with rfl | rfl | rfl | rfl | rfl <;> cases ok <;> revert h <;> decide
theorem Good.one : Good [1] 1 := ⟨by decide, rfl, rfl, by decide, by decide, fun i a b h1 h2 => by simp at h2⟩
theorem Good.push {l : List Int} {s t : Int} {ok : Bool} (h : Good l s) (he : (nx s t ok).2 = 0) : Good (l ++ [(nx s t ok).1]) (nx s t ok).1 := by
  obtain ⟨_, _, _, _, r1, r2⟩ := nx_rng he
  have hp := h.pos
  refine ⟨by simp, ?_, by simp, r1, r2, fun i a b h1 h2 => ?_⟩
  · rw [List.getElem?_append_left hp]
    exact h.hd
  · have hi2 : i + 1 < l.length + 1 := by have := (List.getElem?_eq_some_iff.1 h2).1; simpa using this
    rcases Nat.lt_or_ge (i + 1) l.length with hh | hh
    · rw [List.getElem?_append_left hh] at h2
      rw [List.getElem?_append_left (by omega)] at h1
      exact h.nb i a b h1 h2
    · have hi : i = l.length - 1 := by omega
      rw [List.getElem?_append_left (by omega)] at h1
      rw [List.getElem?_append_right hh] at h2
      have hl := h.last
      rw [← hi, h1] at hl
      injection hl with hl
      subst hl
      have h3 : i + 1 - l.length = 0 := by omega
      rw [h3] at h2
      have h2' : some (nx a t ok).1 = some b := h2
      injection h2' with h2'
      exact ⟨t, ok, by rw [← h2', ← he]⟩
/-- a transition joins two states -/
def okT (a b t : Int) : Bool := ((nx a t true).2 == 0 && (nx a t true).1 == b) || ((nx a t false).2 == 0 && (nx a t false).1 == b)
/-- one of the first transitions joins two states -/
def fnd (a b : Int) : Nat → Bool
  | 0 => false
  | k + 1 => fnd a b k || okT a b ((k : Int) + 1)
theorem fnd_of {a b t : Int} (h : okT a b t = true) : ∀ (k : Nat), 1 ≤ t → t ≤ k → fnd a b k = true
  | 0, h1, h2 => by omega
  | k + 1, h1, h2 => by
    unfold fnd
    by_cases hk : t = (k : Int) + 1
    · rw [← hk, h, Bool.or_true]
    · rw [fnd_of h k h1 (by omega), Bool.true_or]
theorem fnd_nb {l : List Int} {s : Int} (h : Good l s) {i : Nat} {a b : Int} (h1 : l[i]? = some a) (h2 : l[i + 1]? = some b) : fnd a b 5 = true := by
  obtain ⟨t, ok, e⟩ := h.nb i a b h1 h2
  have e2 : (nx a t ok).2 = 0 := by rw [e]
  obtain ⟨_, _, q1, q2, _, _⟩ := nx_rng e2
  refine fnd_of (t := t) ?_ 5 q1 q2
  cases ok <;> simp [okT, e]
set_option maxHeartbeats 16000000 in
set_option maxRecDepth 100000 in
theorem ends_walk (a : Option Addr) (len cap : Nat) (X : Nat → Int) (Y : Nat → Bool) (hl : len ≤ maxLen) (w : World) (hR : Rules w)
    (ha : Hid (0 < len → ∃ b off, a = some ⟨b, off, none⟩ ∧ b < w.heap.size ∧ ∀ i, i < len → w.cell? ⟨b, off + i * 2, none⟩ = some (.int .i64 (X i)) ∧ w.cell? ⟨b, off + (i * 2 + 1), none⟩ = some (.bool (Y i)))) :
    Calls Tryd.prog 5 #[.slice a len cap] w fun e w' => e = .returned (.bool true) ∧ Below w.heap.size w w' := by
  have hpos := hR.pos
  have HR := hid hR
  have hM : maxLen ≤ 9223372036854775807 := by decide
  clear hR
  go_enter Tryd.func5, Tryd.ntmps5
  go_upto_region 5 with (first
    | (go_at_call 13; (with_reducible refine (new_any _).mono ?_); rintro e w1 ⟨g, h, rfl, hg, hh, hm, hb1⟩; have HM1 := hid hm; have HR1 := hid (HR.out.below hpos hb1); clear hm))
  go_loopw [4, 5, 6] (fun s4 s5 s6 wr => ∃ (k h' cap' : Nat) (s f : Int) (l : List Int), s4 = .int .i64 k ∧ k ≤ len ∧ k ≤ 1000 ∧ Hid (Mc wr g h' cap' s f l) ∧ Hid (Good l s) ∧ l.length ≤ k + 1 ∧ 0 ≤ f ∧ f ≤ k ∧ Below w.heap.size w wr ∧ w.heap.size ≤ h') (fun s4 _ _ _ => len - (intOf s4).toNat)
  case atStart => exact ⟨0, h, 1, 1, 0, [1], rfl, Nat.zero_le _, Nat.zero_le _, HM1, hid Good.one, by simp, by omega, by simp, hb1, hh⟩
  case round =>
    clear HM1 HR1 hb1 hh
    obtain ⟨k, h', cap', s, f, l, rfl, hk, hk2, HM, HG, hll, hf0, hf1, hB, hh'⟩ := hrel
    by_cases hkT : k < len ∧ k < 1000
    · obtain ⟨hk1, hk3⟩ := hkT
      obtain ⟨b, off, rfl, hbw, hcell⟩ := ha.out (by omega)
      obtain ⟨x0, x1⟩ := hcell k hk1
      clear hcell
      have hkI : (k : Int) < (len : Int) := by omega
      have hkI0 : (0 : Int) ≤ (k : Int) := by omega
      have hkI1 : (k : Int) < 1000 := by omega
      have hs := hB.size
      have HRw := hid (HR.out.below hpos hB)
      have hg4 : Hid (Mc wr g h' cap' s f l) := HM
      have HST := hid (state_any wr HM.out)
      have rx0 : ∀ (z : Later wr), z.val.cell? ⟨b, off + k * 2, none⟩ = some (.int .i64 (X k)) := fun z => (z.cell (by omega)).trans ((hB.cell hbw).trans x0)
      have rx1 : ∀ (z : Later wr), z.val.cell? ⟨b, off + k * 2 + 1, none⟩ = some (.bool (Y k)) := fun z => (z.cell (by omega)).trans ((hB.cell hbw).trans x1)
      clear x0 x1
      go_upto_region 8 with (first
        | (go_at_call 17; (with_reducible refine (HST.out).mono ?_); rintro e w6 ⟨rfl, rfl⟩))
      refine wp_region_later_tail (w0 := wr) 11 (Below.refl _ _) (by kernel_rfl) (by kernel_rfl) ?_
      simp only [List.take_succ_cons, List.take_zero, List.drop_succ_cons, List.drop_zero]
      repeat (go_big_quiet_step (fail))
      refine wpQuiet_nil ?_
      intro _ hw'
      obtain ⟨y, hw''⟩ := hw'
      subst hw''
      have HMy := hid (HM.out.below y.ok)
      have HRy := hid (HRw.out.below (by omega) y.ok)
      have hBy : Below w.heap.size w y.val := hB.trans (y.ok.mono hs)
      have hsy := y.ok.size
      have hy' : Hid (h' = h' ∨ y.val.heap.size ≤ h') := hid (Or.inl rfl)
      by_cases he : (nx s (X k) (Y k)).2 = 0
      · obtain ⟨r1, r2, _, _, _, _⟩ := nx_rng he
        have hs4 : ¬ (s = 4) := by omega
        have HD := hid (do_ok (X k) (Y k) y.val HRy.out HMy.out he (by omega) hf0 (by omega))
        have HGP := hid (HG.out.push he)
        have HF : Hid (0 ≤ (if Y k = true then f else f + 1) ∧ (if Y k = true then f else f + 1) ≤ (k : Int) + 1) := hid (by split <;> omega)
        clear he
        generalize (nx s (X k) (Y k)).1 = S' at *
        generalize (if Y k = true then f else f + 1) = F' at *
        go_wp2_with (first
          | (go_at_call 15; (with_reducible refine (HD.out).mono ?_); rintro e w7 ⟨rfl, h7, cap7, hm7, hx7, hh7⟩; have HM7 := hid hm7; have HX7 := hid hx7; have HH7 := hid hh7; clear hm7 hx7 hh7))
        go_roundw
        case rel => exact ⟨k + 1, h7, cap7, S', F', l ++ [S'], by go_num, by omega, by omega, HM7, HGP, by simp; omega, HF.out.1, by have := HF.out.2; omega, HX7.out.below hBy (by omega) (by omega) hBy.size, by have := HH7.out; omega⟩
        case measure => simp [intOf]; omega
      · have HD := hid (do_err (X k) (Y k) y.val HRy.out HMy.out he)
        generalize (nx s (X k) (Y k)).2 = E at *
        have HST2 : Hid (∀ w', Below y.val.heap.size y.val w' → Calls Tryd.prog 17 #[.pointer (some ⟨g, 0, none⟩)] w' fun e w'' => e = .returned (.int .i64 s) ∧ w' = w'') := hid (fun w' hb => state_any w' (HMy.out.below hb))
        by_cases hs4 : s = 4
        · subst hs4
          go_wp2_with (first
            | (go_at_call 15; (with_reducible refine (HD.out).mono ?_); rintro e w7 ⟨rfl, hb7⟩)
            | (go_at_call 17; (with_reducible refine (HST2.out _ hb7).mono ?_); rintro e w8 ⟨rfl, rfl⟩))
          go_roundw
          case rel => exact ⟨k + 1, h', cap', 4, f, l, by go_num, by omega, by omega, hid (HMy.out.below hb7), HG, by omega, by omega, by omega, hBy.trans (hb7.mono hBy.size), hh'⟩
          case measure => simp [intOf]; omega
        · go_wp2_with (first
            | (go_at_call 15; (with_reducible refine (HD.out).mono ?_); rintro e w7 ⟨rfl, hb7⟩))
          go_roundw
          case rel => exact ⟨k + 1, h', cap', s, f, l, by go_num, by omega, by omega, hid (HMy.out.below hb7), HG, by omega, by omega, by omega, hBy.trans (hb7.mono hBy.size), hh'⟩
          case measure => simp [intOf]; omega
    · have hEnd : Hid (k = len ∨ k = 1000) := hid (by omega)
      have hHI := hid (history_any wr HM.out (by omega))
      have hpl := HG.out.pos
      have HNB : Hid (∀ (i : Nat) (a b : Int), l[i]? = some a → l[i + 1]? = some b → fnd a b 5 = true) := hid (fun i a b h1 h2 => fnd_nb HG.out h1 h2)
      have HHD := hid HG.out.hd
      have hsB := hB.size
      have h0I : ¬ ((l.length : Int) = 0) := by omega
      have h0K : ((l.length : Int) == 0) = false := by simpa using h0I
      have h0J : (0 : Int) < (l.length : Int) := by omega
      have hlB : l.length ≤ 2000 := by omega
      have HAW := hid (fun w h => awake_any w h)
      have HRT := hid (fun (w' : World) (hb : Below w.heap.size w w') => HR.out.below hpos hb)
      have hc : (len : Int) ≤ k ∨ (((k : Int) < len) ∧ (1000 : Int) ≤ k) := by omega
      clear HM HG ha HR
      rcases hc with hc | ⟨hc, hc2⟩
      all_goals
        (go_upto_region 15 with (first
          | (go_at_call 21; (with_reducible refine (hHI.out).mono ?_); rintro e w9 ⟨v9, rfl, ⟨aL, capL, rfl, hcL, hmL, hrL⟩, hb9⟩; obtain ⟨gL, oL, rfl, hgL, hLc⟩ := hrL hpl; have l0 := hLc 0 1 HHD.out; rw [Nat.add_zero] at l0; have HLC := hid hLc; clear hLc))
         have hs9 := hb9.size
         have HB9 := hid (hB.trans (hb9.mono hB.size))
         clear l0 hb9
         go_loopw [8, 9, 10, 11, 12, 13, 14] (fun s8 s9 s10 s11 s12 s13 s14 wr => ∃ i : Nat, s8 = .int .i64 ((i : Int) + 1) ∧ i + 1 ≤ l.length ∧ Below w9.heap.size w9 wr) (fun s8 _ _ _ _ _ _ _ => l.length - (intOf s8).toNat)
         case atStart => exact ⟨0, rfl, by omega, Below.refl _ _⟩
         case round =>
           obtain ⟨i, rfl, hi, hb10⟩ := hrel
           by_cases hiT : i + 1 < l.length
           · have g1 : l[i]? = some l[i] := by simp [show i < l.length from by omega]
             have g2 : l[i + 1]? = some l[i + 1] := by simp [hiT]
             have HF5 := hid (HNB.out i _ _ g1 g2)
             have m1 := HLC.out i _ g1
             have m2 := HLC.out (i + 1) _ g2
             clear g1 g2
             generalize l[i + 1] = bb at *
             generalize (l[i]'(by omega)) = aa at *
             have HC1 : Hid (∀ w', Below w9.heap.size w9 w' → w'.cell? ⟨gL, oL + i, none⟩ = some (.int .i64 aa) ∧ w'.cell? ⟨gL, oL + (i + 1), none⟩ = some (.int .i64 bb)) := hid (fun w' hb => ⟨(hb.cell hgL).trans m1, (hb.cell hgL).trans m2⟩)
             have hiI : (i : Int) + 1 < (l.length : Int) := by omega
             have hiI0 : (0 : Int) ≤ (i : Int) := by omega
             clear m1 m2
             go_upto_region 19 with fail
             go_loopw [9, 10, 11, 12, 13, 14] (fun s9 s10 s11 s12 s13 s14 wr => ∃ j : Nat, s10 = .int .i64 ((j : Int) + 1) ∧ j ≤ 5 ∧ s9 = .bool (fnd aa bb j) ∧ Below w9.heap.size w9 wr) (fun _ s10 _ _ _ _ _ => 6 - (intOf s10).toNat)
             case atStart => exact ⟨0, rfl, by omega, rfl, hb10⟩
             case round =>
               obtain ⟨j, rfl, hj, rfl, hb11⟩ := hrel
               have hs11 := hb11.size
               by_cases hjT : j < 5
               · have hjI : (j : Int) + 1 ≤ 5 := by omega
                 have hjI0 : (0 : Int) ≤ (j : Int) := by omega
                 have HBB := hid (HB9.out.trans (hb11.mono HB9.out.size))
                 have HFN : Hid (fnd aa bb (j + 1) = (fnd aa bb j || (((nx aa ((j : Int) + 1) true).2 == 0 && (nx aa ((j : Int) + 1) true).1 == bb) || ((nx aa ((j : Int) + 1) false).2 == 0 && (nx aa ((j : Int) + 1) false).1 == bb)))) := hid rfl
                 have N1 := hid (next_any aa ((j : Int) + 1) true wr (HRT.out _ HBB.out))
                 have N2 : Hid (∀ w', Below wr.heap.size wr w' → Calls Tryd.prog 23 #[.int .i64 aa, .int .i64 ((j : Int) + 1), .bool false] w' fun e w'' => e = .returned (.tuple #[.int .i64 (nx aa ((j : Int) + 1) false).1, .int .i64 (nx aa ((j : Int) + 1) false).2]) ∧ Below w'.heap.size w' w'') := hid (fun w' hb => next_any aa ((j : Int) + 1) false w' (HRT.out _ (HBB.out.trans (hb.mono HBB.out.size))))
                 obtain ⟨c0, c1⟩ := HC1.out wr hb11
                 generalize fnd aa bb j = FD at *
                 generalize (nx aa ((j : Int) + 1) true).1 = A1 at *
                 generalize (nx aa ((j : Int) + 1) true).2 = E1 at *
                 generalize (nx aa ((j : Int) + 1) false).1 = A2 at *
                 generalize (nx aa ((j : Int) + 1) false).2 = E2 at *
                 cases FD with
                 | true =>
                   go_wp2_with (first
                     | (go_at_call 23; first
                        | ((with_reducible refine (N1.out).mono ?_); rintro e w12 ⟨rfl, hb12⟩
                           obtain ⟨d0, d1⟩ := HC1.out w12 (hb11.trans (hb12.mono hs11)); have hs12 := hb12.size; have HB12 := hid hb12; have HN2 := hid (N2.out w12 hb12))
                        | ((with_reducible refine (HN2.out).mono ?_); rintro e w13 ⟨rfl, hb13⟩
                           have hb14 := hb11.trans ((HB12.out.trans (hb13.mono hs12)).mono hs11)
                           obtain ⟨f0, f1⟩ := HC1.out w13 hb14)))
                   go_roundw
                   case rel => exact ⟨j + 1, by go_num, by omega, by rw [HFN.out]; simp [*], hb14⟩
                   case measure => simp [intOf]; omega
                 | false =>
                   by_cases hE1 : E1 = 0
                   · by_cases hA1 : A1 = bb
                     · subst hA1; subst hE1
                       go_wp2_with (first
                         | (go_at_call 23; first
                            | ((with_reducible refine (N1.out).mono ?_); rintro e w12 ⟨rfl, hb12⟩
                               obtain ⟨d0, d1⟩ := HC1.out w12 (hb11.trans (hb12.mono hs11)); have hs12 := hb12.size; have HB12 := hid hb12; have HN2 := hid (N2.out w12 hb12))
                            | ((with_reducible refine (HN2.out).mono ?_); rintro e w13 ⟨rfl, hb13⟩
                               have hb14 := hb11.trans ((HB12.out.trans (hb13.mono hs12)).mono hs11)
                               obtain ⟨f0, f1⟩ := HC1.out w13 hb14)))
                       go_roundw
                       case rel => exact ⟨j + 1, by go_num, by omega, by rw [HFN.out]; simp [*], hb14⟩
                       case measure => simp [intOf]; omega
                     · subst hE1
                       by_cases hE2 : E2 = 0
                       · by_cases hA2 : A2 = bb
                         · subst hA2; subst hE2
                           go_wp2_with (first
                             | (go_at_call 23; first
                                | ((with_reducible refine (N1.out).mono ?_); rintro e w12 ⟨rfl, hb12⟩
                                   obtain ⟨d0, d1⟩ := HC1.out w12 (hb11.trans (hb12.mono hs11)); have hs12 := hb12.size; have HB12 := hid hb12; have HN2 := hid (N2.out w12 hb12))
                                | ((with_reducible refine (HN2.out).mono ?_); rintro e w13 ⟨rfl, hb13⟩
                                   have hb14 := hb11.trans ((HB12.out.trans (hb13.mono hs12)).mono hs11)
                                   obtain ⟨f0, f1⟩ := HC1.out w13 hb14)))
                           go_roundw
                           case rel => exact ⟨j + 1, by go_num, by omega, by rw [HFN.out]; simp [*], hb14⟩
                           case measure => simp [intOf]; omega
                         · subst hE2
                           go_wp2_with (first
                             | (go_at_call 23; first
                                | ((with_reducible refine (N1.out).mono ?_); rintro e w12 ⟨rfl, hb12⟩
                                   obtain ⟨d0, d1⟩ := HC1.out w12 (hb11.trans (hb12.mono hs11)); have hs12 := hb12.size; have HB12 := hid hb12; have HN2 := hid (N2.out w12 hb12))
                                | ((with_reducible refine (HN2.out).mono ?_); rintro e w13 ⟨rfl, hb13⟩
                                   have hb14 := hb11.trans ((HB12.out.trans (hb13.mono hs12)).mono hs11)
                                   obtain ⟨f0, f1⟩ := HC1.out w13 hb14)))
                           go_roundw
                           case rel => exact ⟨j + 1, by go_num, by omega, by rw [HFN.out]; simp [*], hb14⟩
                           case measure => simp [intOf]; omega
                       ·
                         go_wp2_with (first
                           | (go_at_call 23; first
                              | ((with_reducible refine (N1.out).mono ?_); rintro e w12 ⟨rfl, hb12⟩
                                 obtain ⟨d0, d1⟩ := HC1.out w12 (hb11.trans (hb12.mono hs11)); have hs12 := hb12.size; have HB12 := hid hb12; have HN2 := hid (N2.out w12 hb12))
                              | ((with_reducible refine (HN2.out).mono ?_); rintro e w13 ⟨rfl, hb13⟩
                                 have hb14 := hb11.trans ((HB12.out.trans (hb13.mono hs12)).mono hs11)
                                 obtain ⟨f0, f1⟩ := HC1.out w13 hb14)))
                         go_roundw
                         case rel => exact ⟨j + 1, by go_num, by omega, by rw [HFN.out]; simp [*], hb14⟩
                         case measure => simp [intOf]; omega
                   ·
                     by_cases hE2 : E2 = 0
                     · by_cases hA2 : A2 = bb
                       · subst hA2; subst hE2
                         go_wp2_with (first
                           | (go_at_call 23; first
                              | ((with_reducible refine (N1.out).mono ?_); rintro e w12 ⟨rfl, hb12⟩
                                 obtain ⟨d0, d1⟩ := HC1.out w12 (hb11.trans (hb12.mono hs11)); have hs12 := hb12.size; have HB12 := hid hb12; have HN2 := hid (N2.out w12 hb12))
                              | ((with_reducible refine (HN2.out).mono ?_); rintro e w13 ⟨rfl, hb13⟩
                                 have hb14 := hb11.trans ((HB12.out.trans (hb13.mono hs12)).mono hs11)
                                 obtain ⟨f0, f1⟩ := HC1.out w13 hb14)))
                         go_roundw
                         case rel => exact ⟨j + 1, by go_num, by omega, by rw [HFN.out]; simp [*], hb14⟩
                         case measure => simp [intOf]; omega
                       · subst hE2
                         go_wp2_with (first
                           | (go_at_call 23; first
                              | ((with_reducible refine (N1.out).mono ?_); rintro e w12 ⟨rfl, hb12⟩
                                 obtain ⟨d0, d1⟩ := HC1.out w12 (hb11.trans (hb12.mono hs11)); have hs12 := hb12.size; have HB12 := hid hb12; have HN2 := hid (N2.out w12 hb12))
                              | ((with_reducible refine (HN2.out).mono ?_); rintro e w13 ⟨rfl, hb13⟩
                                 have hb14 := hb11.trans ((HB12.out.trans (hb13.mono hs12)).mono hs11)
                                 obtain ⟨f0, f1⟩ := HC1.out w13 hb14)))
                         go_roundw
                         case rel => exact ⟨j + 1, by go_num, by omega, by rw [HFN.out]; simp [*], hb14⟩
                         case measure => simp [intOf]; omega
                     ·
                       go_wp2_with (first
                         | (go_at_call 23; first
                            | ((with_reducible refine (N1.out).mono ?_); rintro e w12 ⟨rfl, hb12⟩
                               obtain ⟨d0, d1⟩ := HC1.out w12 (hb11.trans (hb12.mono hs11)); have hs12 := hb12.size; have HB12 := hid hb12; have HN2 := hid (N2.out w12 hb12))
                            | ((with_reducible refine (HN2.out).mono ?_); rintro e w13 ⟨rfl, hb13⟩
                               have hb14 := hb11.trans ((HB12.out.trans (hb13.mono hs12)).mono hs11)
                               obtain ⟨f0, f1⟩ := HC1.out w13 hb14)))
                       go_roundw
                       case rel => exact ⟨j + 1, by go_num, by omega, by rw [HFN.out]; simp [*], hb14⟩
                       case measure => simp [intOf]; omega
               · obtain rfl : j = 5 := by omega
                 rw [HF5.out]
                 go_wp2_with fail
                 go_roundw
                 case rel => exact ⟨i + 1, by go_num, by omega, hb11⟩
                 case measure => simp [intOf]; omega
           · have hiE : (l.length : Int) ≤ (i : Int) + 1 := by omega
             have HBE := hid (HB9.out.trans (hb10.mono HB9.out.size))
             have HAE := hid (HAW.out wr (HRT.out _ HBE.out))
             go_wp2_with (first
               | (go_at_call 10; (with_reducible refine (HAE.out).mono ?_); rintro e w20 ⟨rfl, hb20⟩))
             go_ret
             exact ⟨rfl, HBE.out.trans (hb20.mono HBE.out.size)⟩)
end Go.Proofs.YthklehpekglohaaDoor
