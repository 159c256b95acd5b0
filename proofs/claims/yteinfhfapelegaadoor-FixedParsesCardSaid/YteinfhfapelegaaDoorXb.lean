/- Walks: run, the reference's number, saturated, signed, magnitude. -/
import Derived.Test.YteinfhfapelegaaDoorXa
import Derived.Lib.MinMax
namespace Go.Proofs.YteinfhfapelegaaDoor
open Go.RowKit
set_option linter.unusedVariables false
set_option linter.unusedSimpArgs false
set_option maxHeartbeats 8000000 in
set_option maxRecDepth 100000 in
theorem run_s (s : ByteArray) (l : List UInt8) (at' : Nat) (hsz : s.size = l.length) (HG : Hid (∀ (i : Nat) (h : i < l.length) (h' : i < s.size), s[i]'h' = l[i])) (hl : l.length ≤ 140737488355328) (ha : at' ≤ l.length) (w : World) : Calls Tryd.prog 11 #[.string s, .int .i64 at'] w fun e w' => e = .returned (.int .i64 (runN (l.drop at'))) ∧ w = w' := by
  have hrl := runN_le (l.drop at')
  rw [List.length_drop] at hrl
  have haI0 : (0 : Int) ≤ (at' : Int) := by omega
  have haI1 : (at' : Int) ≤ 140737488355328 := by omega
  have hlI : (l.length : Int) ≤ 140737488355328 := by omega
  obtain ⟨R, hR⟩ : ∃ R, R = runN (l.drop at') := ⟨_, rfl⟩
  have HR := hid hR
  rw [← hR] at hrl
  rw [← hR]
  clear hR
  go_enter Tryd.func11, Tryd.ntmps11
  go_upto_region 2 with fail
  go_loopw [5] (fun s5 wr => ∃ k : Nat, s5 = .int .i64 k ∧ k ≤ R ∧ w = wr) (fun s5 _ => R - (intOf s5).toNat)
  case atStart => exact ⟨0, rfl, Nat.zero_le _, rfl⟩
  case round =>
    obtain ⟨k, rfl, hk, rfl⟩ := hrel
    have hkI0 : (0 : Int) ≤ (k : Int) := by omega
    obtain ⟨q, hq⟩ : ∃ q, q = at' + k := ⟨_, rfl⟩
    have hqI : (at' : Int) + (k : Int) = (q : Int) := by omega
    have hqI0 : (0 : Int) ≤ (q : Int) := by omega
    have hqB : q ≤ l.length := by omega
    have hqBI : (q : Int) ≤ 140737488355328 := by omega
    by_cases hkT : k < R
    · have hql : q < l.length := by omega
      have hqlI : (q : Int) < (l.length : Int) := by omega
      have hD := runN_digit (l.drop at') k (by rw [← HR.out]; exact hkT)
      have eD : (l.drop at')[k]'(by rw [List.length_drop]; omega) = l[q] := by rw [List.getElem_drop]; simp only [hq]
      rw [eD] at hD
      unfold isD at hD
      simp at hD
      have hks : q < s.size := by omega
      have hB := HG.out q hql hks
      obtain ⟨B, hBB⟩ : ∃ B : Nat, B = l[q].toNat := ⟨_, rfl⟩
      have hB2 : (s[q]'hks).toNat = B := by rw [hB, hBB]
      rw [← hBB] at hD
      obtain ⟨d1, d2⟩ := hD
      have d1I : (48 : Int) ≤ (B : Int) := by omega
      have d2I : (B : Int) ≤ 57 := by omega
      clear hB hBB eD hq
      go_wp2_with fail
      go_roundw
      case rel => exact ⟨k + 1, by go_num, by omega, trivial⟩
      case measure => simp [intOf]; omega
    · have hkR : k = R := by omega
      by_cases hend : q < l.length
      · have hqlI : (q : Int) < (l.length : Int) := by omega
        have hD := runN_stop (l.drop at') (by rw [← HR.out, List.length_drop]; omega)
        have eD : (l.drop at')[runN (l.drop at')]'(by rw [← HR.out, List.length_drop]; omega) = l[q] := by rw [List.getElem_drop]; simp only [hq, hkR, HR.out]
        rw [eD] at hD
        unfold isD at hD
        simp at hD
        have hks : q < s.size := by omega
        have hB := HG.out _ hend hks
        obtain ⟨B, hBB⟩ : ∃ B : Nat, B = l[q].toNat := ⟨_, rfl⟩
        have hB2 : (s[q]'hks).toNat = B := by rw [hB, hBB]
        rw [← hBB] at hD
        clear hB hBB eD hq
        subst hkR
        rcases Nat.lt_or_ge B 48 with h48 | h48
        · have h48I : ¬ ((48 : Int) ≤ (B : Int)) := by omega
          go_wp2_with fail
          go_ret
          exact ⟨rfl, rfl⟩
        · have h57 : 57 < B := by have := hD h48; omega
          have h48I : (48 : Int) ≤ (B : Int) := by omega
          have h57I : ¬ ((B : Int) ≤ 57) := by omega
          go_wp2_with fail
          go_ret
          exact ⟨rfl, rfl⟩
      · have hqlI : ¬ ((q : Int) < (l.length : Int)) := by omega
        subst hkR
        clear hq
        go_wp2_with fail
        go_ret
        exact ⟨rfl, rfl⟩
set_option maxHeartbeats 8000000 in
set_option maxRecDepth 100000 in
theorem rnumber_s (s : ByteArray) (l : List UInt8) (hsz : s.size = l.length) (HG : Hid (∀ (i : Nat) (h : i < l.length) (h' : i < s.size), s[i]'h' = l[i])) (hl : l.length ≤ 10) (hd : ∀ b ∈ l, isD b = true) (w : World) : Calls Tryd.prog 12 #[.string s] w fun e w' => e = .returned (.int .u64 (valF 0 l)) ∧ w = w' := by
  have HD := hid hd
  have hlI : (l.length : Int) ≤ 10 := by omega
  clear hd
  go_enter Tryd.func12, Tryd.ntmps12
  go_upto_region 3 with fail
  go_loopw [3, 4] (fun s3 s4 wr => ∃ k : Nat, s4 = .int .i64 k ∧ k ≤ l.length ∧ s3 = .int .u64 (valF 0 (l.take k)) ∧ w = wr) (fun _ s4 _ => l.length - (intOf s4).toNat)
  case atStart => exact ⟨0, rfl, Nat.zero_le _, by simp [valF], rfl⟩
  case round =>
    obtain ⟨k, rfl, hk, rfl, rfl⟩ := hrel
    have hkI0 : (0 : Int) ≤ (k : Int) := by omega
    have hr := valF_range (l.take k) 0 1 (by omega) (by omega) (fun b hb => HD.out b (List.mem_of_mem_take hb))
    have hp : (10 : Int) ^ (l.take k).length ≤ 100000000000 := p10 _ (by simp; omega)
    have hv1 : 0 ≤ valF 0 (l.take k) := hr.1
    have hv2 : valF 0 (l.take k) < 100000000000 := by omega
    clear hr hp
    by_cases hkT : k < l.length
    · have hkI : (k : Int) < (l.length : Int) := by omega
      have hD := HD.out l[k] (List.getElem_mem hkT)
      unfold isD at hD
      simp at hD
      have hks : k < s.size := by omega
      have hB := HG.out k hkT hks
      have HT := hid (valF_take hkT 0)
      obtain ⟨B, hBB⟩ : ∃ B : Nat, B = l[k].toNat := ⟨_, rfl⟩
      have hB2 : (s[k]'hks).toNat = B := by rw [hB, hBB]
      rw [← hBB] at HT hD
      obtain ⟨d1, d2⟩ := hD
      have d1I : (48 : Int) ≤ (B : Int) := by omega
      have d2I : (B : Int) ≤ 57 := by omega
      clear hB hBB
      generalize valF 0 (l.take k) = V at *
      go_wp2_with fail
      go_roundw
      case rel => exact ⟨k + 1, by go_num, by omega, by rw [HT.out], trivial⟩
      case measure => simp [intOf]; omega
    · obtain rfl : k = l.length := by omega
      have hkI : ¬ ((l.length : Int) < (l.length : Int)) := by omega
      generalize hV : valF 0 (l.take l.length) = V at *
      rw [List.take_length] at hV
      have HV := hid hV
      clear hV
      go_wp2_with fail
      go_ret
      exact ⟨by rw [HV.out]; rfl, rfl⟩
theorem saturated_any (b : Bool) (n : Int) (h0 : 0 ≤ n) (h1 : n ≤ 140737488355328) (w : World) : Calls Tryd.prog 10 #[.bool b, .int .u64 n] w fun e w' => e = .returned (.int .i64 (if b then -n else n)) ∧ w = w' := by
  have hm : min n 140737488355328 = n := Int.min_eq_left h1
  cases b
  · go_enter Tryd.func10, Tryd.ntmps10
    go_wp2_with fail
    go_ret
    exact ⟨rfl, rfl⟩
  · go_enter Tryd.func10, Tryd.ntmps10
    go_wp2_with fail
    go_ret
    exact ⟨rfl, rfl⟩
theorem signed_any (b : Bool) (n : Int) (h0 : 0 ≤ n) (h1 : n ≤ 140737488355328) (w : World) : Calls Tryd.prog 13 #[.bool b, .int .u64 n] w fun e w' => e = .returned (.int .i64 (if b then -n else n)) ∧ w = w' := by
  have hm : ¬ (140737488355328 < n) := by omega
  cases b
  · go_enter Tryd.func13, Tryd.ntmps13
    go_wp2_with fail
    go_ret
    exact ⟨rfl, rfl⟩
  · go_enter Tryd.func13, Tryd.ntmps13
    go_wp2_with fail
    go_ret
    exact ⟨by simp, rfl⟩
end Go.Proofs.YteinfhfapelegaaDoor
