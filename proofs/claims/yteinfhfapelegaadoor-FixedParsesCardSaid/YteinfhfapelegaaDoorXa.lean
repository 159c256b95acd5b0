/- Walks: number, run, the reference's number. -/
import Derived.Test.YteinfhfapelegaaDoorBase
import Derived.Test.YteinfhfapelegaaDoorQuiet
import Derived.Test.YteinfhfapelegaaDoorTail
import Derived.Test.YteinfhfapelegaaDoorTxt
import Derived.Test.YteinfhfapelegaaDoorProg
import Derived.Deep.Cut
namespace Go.Proofs.YteinfhfapelegaaDoor
open Go.RowKit
set_option linter.unusedVariables false
set_option linter.unusedSimpArgs false
/-- the bytes of a text -/
abbrev bs (l : List UInt8) : ByteArray := ⟨l.toArray⟩
theorem bs_size (l : List UInt8) : (bs l).size = l.length := by simp [bs, ByteArray.size]
theorem bs_get (l : List UInt8) (i : Nat) (h : i < l.length) (h' : i < (bs l).size) : (bs l)[i]'h' = l[i] := by
  simp [bs, ByteArray.getElem_eq_getElem_data]
theorem p10 (n : Nat) (h : n ≤ 11) : (10 : Int) ^ n ≤ 100000000000 := by
  have hn : n = 0 ∨ n = 1 ∨ n = 2 ∨ n = 3 ∨ n = 4 ∨ n = 5 ∨ n = 6 ∨ n = 7 ∨ n = 8 ∨ n = 9 ∨ n = 10 ∨ n = 11 := by omega
  rcases hn with rfl | rfl | rfl | rfl | rfl | rfl | rfl | rfl | rfl | rfl | rfl | rfl <;> decide
set_option maxHeartbeats 8000000 in
set_option maxRecDepth 100000 in
theorem number_s (s : ByteArray) (l : List UInt8) (hsz : s.size = l.length) (HG : Hid (∀ (i : Nat) (h : i < l.length) (h' : i < s.size), s[i]'h' = l[i])) (hl : l.length ≤ 140737488355328) (w : World) : Calls Tryd.prog 9 #[.string s] w fun e w' => e = .returned (.tuple #[.int .u64 (valF 0 (l.take (min (runN l) 12))), .int .i64 (runN l)]) ∧ w = w' := by
  have hrl := runN_le l
  go_enter Tryd.func9, Tryd.ntmps9
  go_upto_region 3 with fail
  go_loopw [4, 5] (fun s4 s5 wr => ∃ k : Nat, s5 = .int .i64 k ∧ k ≤ runN l ∧ s4 = .int .u64 (valF 0 (l.take (min k 12))) ∧ w = wr) (fun _ s5 _ => runN l - (intOf s5).toNat)
  case atStart => exact ⟨0, rfl, Nat.zero_le _, by simp [valF], rfl⟩
  case round =>
    obtain ⟨k, rfl, hk, rfl, rfl⟩ := hrel
    have hkI0 : (0 : Int) ≤ (k : Int) := by omega
    have hlI : (l.length : Int) ≤ 140737488355328 := by omega
    by_cases hkT : k < runN l
    · have hkl : k < l.length := by omega
      have hkI : (k : Int) < (l.length : Int) := by omega
      have hD := runN_digit l k hkT
      unfold isD at hD
      simp at hD
      have hks : k < s.size := by omega
      have hB := HG.out k hkl hks
      have HT := hid (valF_take hkl 0)
      obtain ⟨B, hBB⟩ : ∃ B : Nat, B = l[k].toNat := ⟨_, rfl⟩
      have hB2 : (s[k]'hks).toNat = B := by rw [hB, hBB]
      rw [← hBB] at HT hD
      obtain ⟨d1, d2⟩ := hD
      have d1I : (48 : Int) ≤ (B : Int) := by omega
      have d2I : (B : Int) ≤ 57 := by omega
      clear hB hBB
      by_cases h12 : k < 12
      · have h12I : (k : Int) < 12 := by omega
        have hr := valF_range (l.take k) 0 1 (by omega) (by omega) (fun b hb => by
          obtain ⟨i, hi, e⟩ := List.getElem_of_mem hb
          have hi' : i < k := by simp at hi; omega
          rw [← e, List.getElem_take]
          exact runN_digit l i (by omega))
        have hp : (10 : Int) ^ (l.take k).length ≤ 100000000000 := p10 _ (by simp; omega)
        have hv1 : 0 ≤ valF 0 (l.take k) := hr.1
        have hv2 : valF 0 (l.take k) < 100000000000 := by omega
        have e1 : min k 12 = k := by omega
        have e2 : min (k + 1) 12 = k + 1 := by omega
        rw [e1]
        clear hr hp e1
        generalize valF 0 (l.take k) = V at *
        go_wp2_with fail
        go_roundw
        case rel => exact ⟨k + 1, by go_num, by omega, by rw [e2, HT.out], trivial⟩
        case measure => simp [intOf]; omega
      · have h12I : ¬ ((k : Int) < 12) := by omega
        have e1 : min k 12 = 12 := by omega
        have e2 : min (k + 1) 12 = 12 := by omega
        rw [e1]
        clear e1 HT
        generalize hV : valF 0 (l.take 12) = V at *
        have HV := hid hV
        clear hV
        go_wp2_with fail
        go_roundw
        case rel => exact ⟨k + 1, by go_num, by omega, by rw [e2, HV.out], trivial⟩
        case measure => simp [intOf]; omega
    · obtain rfl : k = runN l := by omega
      by_cases hend : runN l < l.length
      · have hkI : (runN l : Int) < (l.length : Int) := by omega
        have hD := runN_stop l hend
        unfold isD at hD
        simp at hD
        have hks : runN l < s.size := by omega
        have hB := HG.out _ hend hks
        obtain ⟨B, hBB⟩ : ∃ B : Nat, B = l[runN l].toNat := ⟨_, rfl⟩
        have hB2 : (s[runN l]'hks).toNat = B := by rw [hB, hBB]
        rw [← hBB] at hD
        clear hB hBB
        generalize hV : valF 0 (l.take (min (runN l) 12)) = V at *
        have HV := hid hV
        clear hV
        rcases Nat.lt_or_ge B 48 with h48 | h48
        · have h48I : ¬ ((48 : Int) ≤ (B : Int)) := by omega
          go_wp2_with fail
          refine bodyPost_ret (v := .tuple #[.int .u64 V, .int .i64 (runN l)]) (by simp [results, Tryd.results9, go_sem]) rfl ?_
          exact ⟨by rw [HV.out], rfl⟩
        · have h57 : 57 < B := by have := hD h48; omega
          have h48I : (48 : Int) ≤ (B : Int) := by omega
          have h57I : ¬ ((B : Int) ≤ 57) := by omega
          go_wp2_with fail
          refine bodyPost_ret (v := .tuple #[.int .u64 V, .int .i64 (runN l)]) (by simp [results, Tryd.results9, go_sem]) rfl ?_
          exact ⟨by rw [HV.out], rfl⟩
      · have hkE : runN l = l.length := by omega
        have hkI : ¬ ((runN l : Int) < (l.length : Int)) := by omega
        generalize hV : valF 0 (l.take (min (runN l) 12)) = V at *
        have HV := hid hV
        clear hV
        clear hkE
        go_wp2_with fail
        refine bodyPost_ret (v := .tuple #[.int .u64 V, .int .i64 (runN l)]) (by simp [results, Tryd.results9, go_sem]) rfl ?_
        exact ⟨by rw [HV.out], rfl⟩
theorem number_any (l : List UInt8) (hl : l.length ≤ 140737488355328) (w : World) : Calls Tryd.prog 9 #[.string (bs l)] w fun e w' => e = .returned (.tuple #[.int .u64 (valF 0 (l.take (min (runN l) 12))), .int .i64 (runN l)]) ∧ w = w' :=
  number_s (bs l) l (bs_size l) (hid (fun i h h' => bs_get l i h h')) hl w
end Go.Proofs.YteinfhfapelegaaDoor
