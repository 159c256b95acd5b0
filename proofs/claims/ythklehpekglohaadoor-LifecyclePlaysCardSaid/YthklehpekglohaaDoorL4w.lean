/- The law LifecyclePlays, walked: it returns true. -/
import Derived.Test.YthklehpekglohaaDoorWk
import Derived.Deep.RegionHeld3
import Derived.Deep.DrawnRows
namespace Go.Proofs.YthklehpekglohaaDoor
open Go.RowKit
set_option linter.unusedVariables false
set_option linter.unusedSimpArgs false
attribute [local go_sem ↓] Go.wp_at_zero Go.wp_at_succ
/-- the last 4096 of a list -/
def lastN (l : List Int) : List Int := l.drop (l.length - 4096)
theorem lastN_small {l : List Int} (h : l.length ≤ 4096) : lastN l = l := by
  unfold lastN
  rw [show l.length - 4096 = 0 from by omega, List.drop_zero]
theorem lastN_len (l : List Int) : (lastN l).length ≤ 4096 := by
  unfold lastN
  rw [List.length_drop]
  omega
theorem lastN_push (l : List Int) (x : Int) : lastN (lastN l ++ [x]) = lastN (l ++ [x]) := by
  rcases Nat.lt_or_ge 4096 l.length with h | h
  · have e1 : (lastN l).length = 4096 := by
      unfold lastN
      rw [List.length_drop]
      omega
    have e2 : lastN (lastN l ++ [x]) = (lastN l ++ [x]).drop 1 := by
      show (lastN l ++ [x]).drop ((lastN l ++ [x]).length - 4096) = _
      rw [List.length_append, e1, show 4096 + [x].length - 4096 = 1 from by simp]
    have e3 : lastN (l ++ [x]) = (l ++ [x]).drop (l.length - 4096 + 1) := by
      show (l ++ [x]).drop ((l ++ [x]).length - 4096) = _
      rw [List.length_append, show l.length + [x].length - 4096 = l.length - 4096 + 1 from by simp; omega]
    rw [e2, e3, List.drop_append_of_le_length (by omega), List.drop_append_of_le_length (by omega)]
    show (l.drop (l.length - 4096)).drop 1 ++ [x] = _
    rw [List.drop_drop]
  · rw [lastN_small h]
theorem do_all {g h cap : Nat} {s f : Int} {l : List Int} (t : Int) (ok : Bool) (w : World) (hR : Rules w) (m : Mc w g h cap s f l) (he : (nx s t ok).2 = 0) (hl : l.length ≤ 4096) (hf : 0 ≤ f) (hf' : f < 1000000) : Calls Tryd.prog 15 #[.pointer (some ⟨g, 0, none⟩), .int .i64 t, .bool ok] w fun e w' => e = .returned (.int .i64 0) ∧ ∃ h' cap', Mc w' g h' cap' (nx s t ok).1 (if ok then f else f + 1) (lastN (l ++ [(nx s t ok).1])) ∧ Bx g h w w' ∧ (h' = h ∨ w.heap.size ≤ h') := by
  rcases Nat.lt_or_ge l.length 4096 with h4 | h4
  · rw [lastN_small (by simp; omega)]
    exact do_ok t ok w hR m he h4 hf hf'
  · have e : lastN (l ++ [(nx s t ok).1]) = (l ++ [(nx s t ok).1]).drop 1 := by
      show (l ++ [(nx s t ok).1]).drop ((l ++ [(nx s t ok).1]).length - 4096) = _
      rw [List.length_append, show l.length + [(nx s t ok).1].length - 4096 = 1 from by simp; omega]
    rw [e]
    cases ok
    · exact do_long_false t w hR m he (by omega) hf hf'
    · exact do_long_true t w hR m he (by omega) hf hf'
set_option maxHeartbeats 16000000 in
set_option maxRecDepth 100000 in
theorem plays_walk (a : Option Addr) (len cap : Nat) (X : Nat → Int) (Y : Nat → Bool) (hl : len ≤ maxLen) (w : World) (hR : Rules w)
    (ha : Hid (0 < len → ∃ b off, a = some ⟨b, off, none⟩ ∧ b < w.heap.size ∧ ∀ i, i < len → w.cell? ⟨b, off + i * 2, none⟩ = some (.int .i64 (X i)) ∧ w.cell? ⟨b, off + (i * 2 + 1), none⟩ = some (.bool (Y i)))) :
    Calls Tryd.prog 4 #[.slice a len cap] w fun e w' => e = .returned (.bool true) ∧ Below w.heap.size w w' := by
  have hpos := hR.pos
  have HR := hid hR
  have hM : maxLen ≤ 9223372036854775807 := by decide
  clear hR
  go_enter Tryd.func4, Tryd.ntmps4
  go_upto_region 5 with (first
    | (go_at_call 13; (with_reducible refine (new_any _).mono ?_); rintro e w1 ⟨g, h, rfl, hg, hh, hm, hb1⟩; have HM1 := hid hm; have hs1 := hb1.size; have hglt := hm.lt; have hhlt := hm.hlt; clear hm)
    | (go_at_call 14; (with_reducible refine (rnew_any _).mono ?_); rintro e w2 ⟨g2, h2, rfl, hg2, hh2, hm2, hb2⟩; have HM2 := hid hm2; have HM1 := hid (HM1.out.below hb2); have hs2 := hb2.size; clear hm2))
  have hB0 := hb1.trans (hb2.mono hs1)
  go_loopw [5] (fun s5 wr => ∃ (k h' cap' h2' cap2' : Nat) (s f : Int) (pre : List Int), s5 = .int .i64 k ∧ k ≤ len ∧ k ≤ 5000 ∧ Hid (Mc wr g h' cap' s f (lastN (pre ++ [s]))) ∧ Hid (Mr wr g2 h2' cap2' f (pre ++ [s])) ∧ pre.length ≤ k ∧ 0 ≤ f ∧ f ≤ k ∧ Below w.heap.size w wr ∧ w.heap.size ≤ h' ∧ w.heap.size ≤ h2' ∧ g ≠ g2 ∧ g ≠ h2' ∧ h' ≠ g2 ∧ h' ≠ h2') (fun s5 _ => len - (intOf s5).toNat)
  case atStart => exact ⟨0, h, 1, h2, 1, 1, 0, [], rfl, Nat.zero_le _, Nat.zero_le _, hid (by rw [lastN_small (by simp)]; exact HM1.out), HM2, Nat.le_refl _, by omega, by simp, hB0, hh, by omega, by omega, by omega, by omega, by omega⟩
  case round =>
    clear HM1 HM2 hb1 hb2 hh hh2 hs2 hB0 hglt hhlt
    obtain ⟨k, h', cap', h2', cap2', s, f, pre, rfl, hk, hk2, HM, HQ, hll, hf0, hf1, hB, hh', hhq, n1, n2, n3, n4⟩ := hrel
    by_cases hkT : k < len ∧ k < 5000
    · obtain ⟨hk1, hk3⟩ := hkT
      obtain ⟨b, off, rfl, hbw, hcell⟩ := ha.out (by omega)
      obtain ⟨x0, x1⟩ := hcell k hk1
      clear hcell
      have hkI : (k : Int) < (len : Int) := by omega
      have hkI0 : (0 : Int) ≤ (k : Int) := by omega
      have hkI1 : (k : Int) < 5000 := by omega
      have hs := hB.size
      have c0 : wr.cell? ⟨b, off + k * 2, none⟩ = some (.int .i64 (X k)) := (hB.cell hbw).trans x0
      have c1 : wr.cell? ⟨b, off + k * 2 + 1, none⟩ = some (.bool (Y k)) := (hB.cell hbw).trans x1
      clear x0 x1
      by_cases he : (nx s (X k) (Y k)).2 = 0
      · have g0 : b < g ∧ b < g2 ∧ b < h' ∧ b < h2' := ⟨by omega, by omega, by omega, by omega⟩
        have g1 := HQ.out.lt
        have g2' := HQ.out.hlt
        have D1 : Hid (∀ w', Below wr.heap.size wr w' → Calls Tryd.prog 15 #[.pointer (some ⟨g, 0, none⟩), .int .i64 (X k), .bool (Y k)] w' fun e w'' => e = .returned (.int .i64 0) ∧ ∃ h'' cap'', Mc w'' g h'' cap'' (nx s (X k) (Y k)).1 (if Y k then f else f + 1) (lastN (lastN (pre ++ [s]) ++ [(nx s (X k) (Y k)).1])) ∧ Bx g h' w' w'' ∧ (h'' = h' ∨ w'.heap.size ≤ h'')) := hid (fun w' hb => do_all (X k) (Y k) w' (HR.out.below hpos (hB.trans (hb.mono hs))) (HM.out.below hb) he (lastN_len _) hf0 (by omega))
        have D2 : Hid (∀ w' , Mr w' g2 h2' cap2' f (pre ++ [s]) → Calls Tryd.prog 16 #[.pointer (some ⟨g2, 0, none⟩), .int .i64 (X k), .bool (Y k)] w' fun e w'' => e = .returned (.int .i64 0) ∧ ∃ h'' cap'', Mr w'' g2 h'' cap'' (if Y k then f else f + 1) (pre ++ [s] ++ [(nx s (X k) (Y k)).1]) ∧ Bx g2 h2' w' w'' ∧ (h'' = h2' ∨ w'.heap.size ≤ h'')) := hid (fun w' mm => rdo_ok (X k) (Y k) w' mm he (by omega) hf0 (by omega))
        go_upto_region 7 with fail
        have hbw2 : b < wr.heap.size := by omega
        have hKC : Hid (∀ w', Below wr.heap.size wr w' → w'.cell? ⟨b, off + k * 2, none⟩ = some (.int .i64 (X k)) ∧ w'.cell? ⟨b, off + k * 2 + 1, none⟩ = some (.bool (Y k))) := hid (fun w' hb => ⟨(hb.cell hbw2).trans c0, (hb.cell hbw2).trans c1⟩)
        have hKX : Hid (∀ w' w'' g' h', Bx g' h' w' w'' → b ≠ g' → b ≠ h' → b < w'.heap.size → w'.cell? ⟨b, off + k * 2, none⟩ = some (.int .i64 (X k)) ∧ w'.cell? ⟨b, off + k * 2 + 1, none⟩ = some (.bool (Y k)) → w''.cell? ⟨b, off + k * 2, none⟩ = some (.int .i64 (X k)) ∧ w''.cell? ⟨b, off + k * 2 + 1, none⟩ = some (.bool (Y k))) := hid (fun w' w'' g' h' x e1 e2 e3 h => ⟨(x.cell e3 e1 e2).trans h.1, (x.cell e3 e1 e2).trans h.2⟩)
        generalize (nx s (X k) (Y k)).1 = S' at *
        generalize hFF : (if Y k = true then f else f + 1) = F' at *
        have HFF := hid hFF
        clear hFF
        go_region_held3 (fun w' => w'.cell? ⟨b, off + k * 2, none⟩ = some (.int .i64 (X k)) ∧ w'.cell? ⟨b, off + k * 2 + 1, none⟩ = some (.bool (Y k))) (first | go_keep | (exact ⟨by assumption, by assumption⟩))
          (first
            | (go_at_call 15; (with_reducible refine (D1.out _ (Below.drew (Below.refl _ _))).mono ?_); rintro e w3 ⟨rfl, h3, cap3, hm3, hx3, hh3⟩; have HM3 := hid hm3; have HX3 := hid hx3; have HH3 := hid hh3; obtain ⟨q0, q1⟩ := hKX.out _ _ _ _ hx3 (by omega) (by omega) (by simpa using hbw2) (hKC.out _ (Below.drew (Below.refl _ _)))
               have hs3 : wr.heap.size ≤ w3.heap.size := hx3.size
               have HQ3 := hid ((HQ.out.below (Below.drew (Below.refl _ _))).bx hx3 n1.symm n3.symm n2.symm n4.symm); clear hm3 hx3 hh3)
            | (go_at_call 16; (with_reducible refine (D2.out _ HQ3.out).mono ?_); rintro e w4 ⟨rfl, h4, cap4, hm4, hx4, hh4⟩; have HX4 := hid hx4; have HH4 := hid hh4; have HM4 := hid hm4
               have hs4 : w3.heap.size ≤ w4.heap.size := hx4.size
               have HC4 := hid (HM3.out.bx hx4 n1 n2 (by have := HH3.out; have e : wr.drew.heap.size = wr.heap.size := rfl; omega) (by have := HH3.out; have e : wr.drew.heap.size = wr.heap.size := rfl; omega))
               obtain ⟨q2, q3⟩ := hKX.out _ _ _ _ hx4 (by omega) (by omega) (by omega) ⟨by assumption, by assumption⟩; clear hm4 hx4 hh4)
            | (go_at_call 17; (with_reducible refine (state_any _ HC4.out).mono ?_); rintro e w5 ⟨rfl, rfl⟩)
            | (go_at_call 18; (with_reducible refine (rstate_any _ HM4.out (by simp; omega)).mono ?_); rintro e w6 ⟨rfl, hb6⟩; have HB6 := hid hb6; have HC6 := hid (HC4.out.below hb6); have HM6 := hid (HM4.out.below hb6)
               have q4 : w6.cell? ⟨b, off + k * 2, none⟩ = some (.int .i64 (X k)) := (hb6.cell (by dsimp only; omega)).trans (by assumption)
               have q5 : w6.cell? ⟨b, off + k * 2 + 1, none⟩ = some (.bool (Y k)) := (hb6.cell (by dsimp only; omega)).trans (by assumption)
               clear hb6)
            | (go_at_call 19; (with_reducible refine (fail_any _ HC6.out).mono ?_); rintro e w7 ⟨rfl, rfl⟩)
            | (go_at_call 20; (with_reducible refine (rfail_any _ HM6.out).mono ?_); rintro e w8 ⟨rfl, rfl⟩))
        go_wp2_with fail
        have e : wr.drew.heap.size = wr.heap.size := rfl
        have B3 := HX3.out.below (Below.drew hB) hg hh' hs
        have B4 := HX4.out.below B3 (by omega) hhq B3.size
        have B6 := B4.trans (HB6.out.mono B4.size)
        have l3 := HM3.out.lt
        have l3' := HM3.out.hlt
        have HF : Hid (0 ≤ F' ∧ F' ≤ (k : Int) + 1) := hid (by rw [← HFF.out]; split <;> omega)
        have hC7 : Hid (Mc w6 g h3 cap3 S' F' (lastN (pre ++ [s] ++ [S']))) := hid (by have := HC6.out; rwa [lastN_push] at this)
        go_roundw
        case rel => exact ⟨k + 1, h3, cap3, h4, cap4, S', F', pre ++ [s], by go_num, by omega, by omega, hC7, HM6, by simp; omega, HF.out.1, by have := HF.out.2; omega, B6, by have := HH3.out; omega, by have := HH4.out; omega, n1, by have := HH4.out; omega, by have := HH3.out; omega, by have := HH3.out; have := HH4.out; omega⟩
        case measure => simp [intOf]; omega
      · have D1 : Hid (∀ w', Below wr.heap.size wr w' → Calls Tryd.prog 15 #[.pointer (some ⟨g, 0, none⟩), .int .i64 (X k), .bool (Y k)] w' fun e w'' => e = .returned (.int .i64 (nx s (X k) (Y k)).2) ∧ Below w'.heap.size w' w'') := hid (fun w' hb => do_err (X k) (Y k) w' (HR.out.below hpos (hB.trans (hb.mono hs))) (HM.out.below hb) he)
        have D2 : Hid (∀ w' , Mr w' g2 h2' cap2' f (pre ++ [s]) → Calls Tryd.prog 16 #[.pointer (some ⟨g2, 0, none⟩), .int .i64 (X k), .bool (Y k)] w' fun e w'' => e = .returned (.int .i64 (nx s (X k) (Y k)).2) ∧ Below w'.heap.size w' w'') := hid (fun w' mm => rdo_err (X k) (Y k) w' mm (by omega) he)
        clear he
        generalize (nx s (X k) (Y k)).2 = E at *
        go_upto_region 7 with fail
        have hbw2 : b < wr.heap.size := by omega
        have hKC : Hid (∀ w', Below wr.heap.size wr w' → w'.cell? ⟨b, off + k * 2, none⟩ = some (.int .i64 (X k)) ∧ w'.cell? ⟨b, off + k * 2 + 1, none⟩ = some (.bool (Y k))) := hid (fun w' hb => ⟨(hb.cell hbw2).trans c0, (hb.cell hbw2).trans c1⟩)
        go_region_held3 (fun w' => w'.cell? ⟨b, off + k * 2, none⟩ = some (.int .i64 (X k)) ∧ w'.cell? ⟨b, off + k * 2 + 1, none⟩ = some (.bool (Y k))) (first | go_keep | (exact ⟨by assumption, by assumption⟩))
          (first
            | (go_at_call 15; (with_reducible refine (D1.out _ (Below.drew (Below.refl _ _))).mono ?_); rintro e w3 ⟨rfl, hb3⟩
               have hW3 : Below wr.heap.size wr w3 := (Below.drew (Below.refl _ _)).trans hb3
               obtain ⟨q0, q1⟩ := hKC.out _ hW3
               have HW3 := hid hW3
               have HQ3 := hid (HQ.out.below hW3); clear hb3 hW3)
            | (go_at_call 16; (with_reducible refine (D2.out _ HQ3.out).mono ?_); rintro e w4 ⟨rfl, hb4⟩
               have hW4 : Below wr.heap.size wr w4 := HW3.out.trans (hb4.mono HW3.out.size)
               obtain ⟨q2, q3⟩ := hKC.out _ hW4
               have HW4 := hid hW4
               have HC4 := hid (HM.out.below hW4)
               have HM4 := hid (HQ.out.below hW4)
               clear hb4 hW4)
            | (go_at_call 17; (with_reducible refine (state_any _ HC4.out).mono ?_); rintro e w5 ⟨rfl, rfl⟩)
            | (go_at_call 18; (with_reducible refine (rstate_any _ HM4.out (by omega)).mono ?_); rintro e w6 ⟨rfl, hb6⟩
               have hW6 : Below wr.heap.size wr w6 := HW4.out.trans (hb6.mono HW4.out.size)
               obtain ⟨q4, q5⟩ := hKC.out _ hW6
               have HW6 := hid hW6
               have HC6 := hid (HM.out.below hW6)
               have HM6 := hid (HQ.out.below hW6)
               clear hb6 hW6)
            | (go_at_call 19; (with_reducible refine (fail_any _ HC6.out).mono ?_); rintro e w7 ⟨rfl, rfl⟩)
            | (go_at_call 20; (with_reducible refine (rfail_any _ HM6.out).mono ?_); rintro e w8 ⟨rfl, rfl⟩))
        go_wp2_with fail
        go_roundw
        case rel => exact ⟨k + 1, h', cap', h2', cap2', s, f, pre, by go_num, by omega, by omega, HC6, HM6, by omega, by omega, by omega, hB.trans (HW6.out.mono hs), hh', hhq, n1, n2, n3, n4⟩
        case measure => simp [intOf]; omega
    · have hEnd : Hid (k = len ∨ k = 5000) := hid (by omega)
      have hHI := hid (history_any wr HM.out (by have := lastN_len (pre ++ [s]); omega))
      have hHR : Hid (∀ w', Below wr.heap.size wr w' → Calls Tryd.prog 22 #[.pointer (some ⟨g2, 0, none⟩)] w' fun e w'' => ∃ v, e = .returned v ∧ RdI w'' v (lastN (pre ++ [s])) ∧ Below w'.heap.size w' w'') := hid (fun w' hb => rhistory_any w' (HQ.out.below hb) (by simp; omega) (by simp))
      have hSM : Hid (∀ (v1 v2 : Value) (l : List Int) (w : World), RdI w v1 l → RdI w v2 l → Calls Tryd.prog 9 #[v1, v2] w fun e w' => e = .returned (.bool true) ∧ Below w.heap.size w w') := hid (fun v1 v2 l w h1 h2 => by have := same_any v1 v2 l l w h1 h2; rwa [decide_eq_true rfl] at this)
      have hsB := hB.size
      have HAW := hid (fun w h => awake_any w h)
      have HRT := hid (fun (w' : World) (hb : Below w.heap.size w w') => HR.out.below hpos hb)
      have hc : (len : Int) ≤ k ∨ (((k : Int) < len) ∧ (5000 : Int) ≤ k) := by omega
      clear HM HQ ha HR
      generalize lastN (pre ++ [s]) = LL at *
      rcases hc with hc | ⟨hc, hc2⟩
      all_goals
        (go_wp2_with (first
          | (go_at_call 21; (with_reducible refine (hHI.out).mono ?_); rintro e w9 ⟨v9, rfl, hv9, hb9⟩; have HV9 := hid hv9; have HB9 := hid hb9; clear hv9 hb9)
          | (go_at_call 22; (with_reducible refine (hHR.out _ HB9.out).mono ?_); rintro e w10 ⟨v10, rfl, hv10, hb10⟩; have HV10 := hid hv10; have HB10 := hid (HB9.out.trans (hb10.mono HB9.out.size)); have HV11 := hid (rdI_below HV9.out hb10); clear hv10 hb10)
          | (go_at_call 9; (with_reducible refine (hSM.out _ _ _ _ HV11.out HV10.out).mono ?_); rintro e w11 ⟨rfl, hb11⟩; have HB11 := hid (hB.trans ((HB10.out.trans (hb11.mono HB10.out.size)).mono hsB)); clear hb11)
          | (go_at_call 10; (with_reducible refine (HAW.out _ (HRT.out _ HB11.out)).mono ?_); rintro e w12 ⟨rfl, hb12⟩))
         go_ret
         exact ⟨rfl, HB11.out.trans (hb12.mono HB11.out.size)⟩)
end Go.Proofs.YthklehpekglohaaDoor
