/- The law LifecycleSteps, walked: it returns true. -/
import Derived.Test.YthklehpekglohaaDoorWh
namespace Go.Proofs.YthklehpekglohaaDoor
open Go.RowKit
set_option linter.unusedVariables false
set_option linter.unusedSimpArgs false
theorem take_dec (t : Int) (L : List Int) {k : Nat} (h : k < L.length) : decide (t ∈ L.take (k + 1)) = (decide (t ∈ L.take k) || (L[k] == t)) := by
  have e : (t ∈ L.take (k + 1)) ↔ (t ∈ L.take k ∨ L[k] = t) := by
    rw [List.take_add_one, List.getElem?_eq_getElem h]
    simp only [Option.toList_some, List.mem_append, List.mem_singleton]
    exact or_congr Iff.rfl eq_comm
  by_cases h1 : t ∈ L.take k <;> by_cases h2 : L[k] = t <;> simp [e, h1, h2]
theorem alwN_mem {s t : Int} {ok : Bool} : decide (t ∈ alwN s 5) = ((nx s t ok).2 == 0) := by
  by_cases h1 : s < 1 ∨ 4 < s
  · rw [alwN_out h1, nx_out (by omega)]
    rfl
  · rcases four (s := s) (by omega) (by omega) with rfl | rfl | rfl | rfl
    all_goals
      by_cases h2 : t < 1 ∨ 5 < t
      · rw [nx_out (by omega)]
        refine decide_eq_false (fun h => ?_)
        revert h2
        revert t
        decide
      · rcases five (s := t) (by omega) (by omega) with rfl | rfl | rfl | rfl | rfl <;> cases ok <;> rfl
set_option maxHeartbeats 8000000 in
set_option maxRecDepth 100000 in
theorem steps_walk (s t : Int) (ok : Bool) (w : World) (hR : Rules w) : Calls Tryd.prog 6 #[.int .i64 s, .int .i64 t, .bool ok] w fun e w' => e = .returned (.bool true) ∧ Below w.heap.size w w' := by
  have hpos := hR.pos
  have HR := hid hR
  have HN := hid (next_any s t ok w hR)
  have HRN := hid (fun w => rnext_any s t ok w)
  have HMEM : Hid (decide (t ∈ alwN s 5) = ((nx s t ok).2 == 0)) := hid alwN_mem
  have HL5 := hid (alwN_len s 5)
  have HAL := hid (fun w h => allowed_any s w h)
  have HRAL := hid (fun w => rallowed_any s w)
  clear hR
  generalize (nx s t ok).1 = A at *
  generalize (nx s t ok).2 = E at *
  generalize alwN s 5 = L at *
  have HSM : Hid (∀ (v1 v2 : Value) (w : World), RdI w v1 L → RdI w v2 L → Calls Tryd.prog 9 #[v1, v2] w fun e w' => e = .returned (.bool true) ∧ Below w.heap.size w w') := hid (fun v1 v2 w h1 h2 => (same_any v1 v2 L L w h1 h2).mono fun e w' h => ⟨by rw [h.1]; simp, h.2⟩)
  go_enter Tryd.func6, Tryd.ntmps6
  go_upto_region 8 with (first
    | (go_at_call 23; (with_reducible refine (HN.out).mono ?_); rintro e w1 ⟨rfl, hb1⟩; have HR1 := hid (HR.out.below hpos hb1))
    | (go_at_call 24; (with_reducible refine (HRN.out _).mono ?_); rintro e w9 ⟨rfl, rfl⟩)
    | (go_at_call 25; (with_reducible refine (HAL.out _ HR1.out).mono ?_); rintro e w2 ⟨v2, rfl, ho2, hb2⟩; have HV2 := hid (rdI_own ho2 (by have := HL5.out; unfold maxLen; omega)); clear ho2)
    | (go_at_call 26; (with_reducible refine (HRAL.out _).mono ?_); rintro e w3 ⟨v3, rfl, ho3, hb3⟩; have HV3 := hid (rdI_own ho3 (by have := HL5.out; unfold maxLen; omega)); have HV23 := hid (rdI_below HV2.out hb3); clear ho3)
    | (go_at_call 9; (with_reducible refine (HSM.out _ _ _ HV23.out HV3.out).mono ?_); rintro e w4 ⟨rfl, hb4⟩; have HV4 := hid (rdI_below HV23.out hb4)))
  obtain ⟨a, cap, hv, hcp, hLm, hcl⟩ := HV4.out
  subst hv
  have hs1 := hb1.size
  have hs2 := hb2.size
  have hs3 := hb3.size
  have hs4 := hb4.size
  have hB4 : Below w.heap.size w w4 := ((hb1.trans (hb2.mono hs1)).trans (hb3.mono (by omega))).trans (hb4.mono (by omega))
  have hR4 : Hid (Rules w4) := hid (HR.out.below hpos hB4)
  have HCL := hid hcl
  have hL5 := HL5.out
  clear hcl HV4 HV23 HV2 HV3 HSM HN HRN HAL HRAL
  go_loopw [12, 13] (fun s12 s13 wr => ∃ k : Nat, s13 = .int .i64 k ∧ k ≤ L.length ∧ s12 = .bool (decide (t ∈ L.take k)) ∧ w4 = wr) (fun _ s13 _ => L.length - (intOf s13).toNat)
  case atStart => exact ⟨0, rfl, Nat.zero_le _, by simp, rfl⟩
  case round =>
    obtain ⟨k, rfl, hk, rfl, rfl⟩ := hrel
    by_cases hkL : k < L.length
    · obtain ⟨g, off, rfl, hg, hc⟩ := HCL.out (by omega)
      have c0 := hc k L[k] (by simp [hkL])
      have hTK : Hid (decide (t ∈ L.take (k + 1)) = (decide (t ∈ L.take k) || (L[k] == t))) := hid (take_dec t L hkL)
      generalize decide (t ∈ L.take k) = B at *
      generalize L[k] = T at *
      have hkI : (k : Int) < (L.length : Int) := by omega
      have hkI0 : (0 : Int) ≤ (k : Int) := by omega
      clear hc
      cases B with
      | true =>
        go_wp2_with fail
        go_roundw
        case rel => exact ⟨k + 1, by go_num, by omega, by rw [hTK.out]; rfl, by first | rfl | trivial⟩
        case measure => simp [intOf]; omega
      | false =>
        by_cases hT : T = t
        · have HT := hid hT
          go_wp2_with fail
          go_roundw
          case rel => exact ⟨k + 1, by go_num, by omega, by rw [hTK.out]; simp [HT.out], by first | rfl | trivial⟩
          case measure => simp [intOf]; omega
        · have HT := hid hT
          go_wp2_with fail
          go_roundw
          case rel => exact ⟨k + 1, by go_num, by omega, by rw [hTK.out]; simp [HT.out], by first | rfl | trivial⟩
          case measure => simp [intOf]; omega
    · obtain rfl : k = L.length := by omega
      have hTL : Hid (L.take L.length = L) := hid (List.take_length)
      have HSN1 := hid (fun w => name27 s w)
      have HSN2 := hid (fun w => name28 s w)
      have HTN1 := hid (fun w => name29 t w)
      have HTN2 := hid (fun w => name30 t w)
      have HAW := hid (fun w h => awake_any w h)
      have hm := HMEM.out
      rw [hTL.out, hm]
      generalize sname s = SN at *
      generalize tname t = TN at *
      clear hm HMEM
      by_cases hE : E = 0
      · subst hE
        go_wp2_with (first
          | (go_at_call 27; (with_reducible refine (HSN1.out _).mono ?_); rintro e w5 ⟨rfl, rfl⟩)
          | (go_at_call 28; (with_reducible refine (HSN2.out _).mono ?_); rintro e w5 ⟨rfl, rfl⟩)
          | (go_at_call 29; (with_reducible refine (HTN1.out _).mono ?_); rintro e w5 ⟨rfl, rfl⟩)
          | (go_at_call 30; (with_reducible refine (HTN2.out _).mono ?_); rintro e w5 ⟨rfl, rfl⟩)
          | (go_at_call 10; (with_reducible refine (HAW.out _ hR4.out).mono ?_); rintro e w6 ⟨rfl, hb6⟩))
        go_ret
        exact ⟨rfl, hB4.trans (hb6.mono hB4.size)⟩
      · have hE' : (E == 0) = false := by simpa using hE
        rw [hE']
        go_wp2_with (first
          | (go_at_call 27; (with_reducible refine (HSN1.out _).mono ?_); rintro e w5 ⟨rfl, rfl⟩)
          | (go_at_call 28; (with_reducible refine (HSN2.out _).mono ?_); rintro e w5 ⟨rfl, rfl⟩)
          | (go_at_call 29; (with_reducible refine (HTN1.out _).mono ?_); rintro e w5 ⟨rfl, rfl⟩)
          | (go_at_call 30; (with_reducible refine (HTN2.out _).mono ?_); rintro e w5 ⟨rfl, rfl⟩)
          | (go_at_call 10; (with_reducible refine (HAW.out _ hR4.out).mono ?_); rintro e w6 ⟨rfl, hb6⟩))
        go_ret
        exact ⟨rfl, hB4.trans (hb6.mono hB4.size)⟩
end Go.Proofs.YthklehpekglohaaDoor
