/- Walks: the reference's Digits; both Formats. -/
import Derived.Test.YteinfhfapelegaaDoorXc
import Derived.Laws.Concat
namespace Go.Proofs.YteinfhfapelegaaDoor
open Go.RowKit
set_option linter.unusedVariables false
set_option linter.unusedSimpArgs false
abbrev ub (l : List Int) : List UInt8 := l.map fun x => UInt8.ofNat x.toNat
theorem bs_add (a b : List UInt8) : bs a ++ bs b = bs (a ++ b) := by
  apply ByteArray.ext
  simp [bs]
theorem str_add {a b c : ByteArray} {la lb : List UInt8} (ha : a = bs la) (hb : b = bs lb) (hc : c = bs (la ++ lb)) (h : la.length + lb.length ≤ 1000) (w : World) : (Op.stringOp .add a b).run Tryd.prog w = .ok (.string c) w := by
  subst ha hb hc
  rw [run_string_add_sum w _ _ (by rw [bs_size, bs_size]; omega), bs_add]
theorem dig_slice {d : Int} (h0 : 0 ≤ d) (h1 : d ≤ 9) (w : World) : (Instr.slice 9 (.string { data := #[48, 49, 50, 51, 52, 53, 54, 55, 56, 57] }) (some (.int .u64 d)) (some (.int .u64 (d + 1))) none).run Tryd.prog w = .ok (.string (bs (ub [48 + d]))) w := by
  have hd : d = 0 ∨ d = 1 ∨ d = 2 ∨ d = 3 ∨ d = 4 ∨ d = 5 ∨ d = 6 ∨ d = 7 ∨ d = 8 ∨ d = 9 := by omega
  have hz : ({ data := #[48, 49, 50, 51, 52, 53, 54, 55, 56, 57] } : ByteArray).size = 10 := rfl
  rw [run_slice_string (P := Tryd.prog) w 9 _ _ _ _ _ Tryd.underlying9 h0 (by omega) (by rw [hz]; omega)]
  congr 2
  rcases hd with rfl | rfl | rfl | rfl | rfl | rfl | rfl | rfl | rfl | rfl <;> rfl
set_option maxHeartbeats 8000000 in
set_option maxRecDepth 100000 in
theorem rdigits_any (n : Int) (h0 : 0 ≤ n) (h1 : n < 18446744073709551616) (w : World) : Calls Tryd.prog 17 #[.int .u64 n] w fun e w' => ∃ s, e = .returned (.string s) ∧ s = bs (ub (dgs 1 24 n [])) ∧ w = w' := by
  have hp24 : n < 10 ^ 24 := by have : (10 : Int) ^ 24 = 1000000000000000000000000 := by decide
                                omega
  go_enter Tryd.func17, Tryd.ntmps17
  go_upto_region 2 with fail
  go_loopw [0, 3] (fun s0 s3 wr => ∃ (f : Nat) (m : Int) (acc : List Int) (s : ByteArray), s0 = .int .u64 m ∧ s3 = .string s ∧ Hid (s = bs (ub acc)) ∧ acc.length + f = 24 ∧ 0 ≤ m ∧ m < 18446744073709551616 ∧ Hid (m < 10 ^ f) ∧ (acc = [] ∨ 0 < m) ∧ Hid (dgs 1 f m acc = dgs 1 24 n []) ∧ w = wr) (fun s0 _ _ => (intOf s0).toNat)
  case atStart => exact ⟨24, n, [], { data := #[] }, rfl, rfl, hid rfl, rfl, h0, h1, hid hp24, Or.inl rfl, hid rfl, rfl⟩
  case round =>
    clear hp24
    obtain ⟨f, m, acc, s, rfl, rfl, HS, hf, hm0, hm1, HP, hor, HD, rfl⟩ := hrel
    obtain ⟨f', rfl⟩ : ∃ f', f = f' + 1 := by
      cases f with
      | zero =>
        have := HP.out
        simp at this
        rcases hor with h | h
        · subst h; simp at hf
        · omega
      | succ f => exact ⟨f, rfl⟩
    have hg : 0 < m ∨ acc.length < 1 := by
      rcases hor with h | h
      · subst h; exact Or.inr (by simp)
      · exact Or.inl h
    have HD2 : Hid (dgs 1 f' (m / 10) ((48 + m % 10) :: acc) = dgs 1 24 n []) := hid (by have := HD.out; unfold dgs at this; rw [if_pos hg] at this; exact this)
    have HP2 : Hid (m / 10 < 10 ^ f') := hid (by have := HP.out; rw [Int.pow_succ] at this; omega)
    have hq1 : 0 ≤ m % 10 := by omega
    have hq2 : m % 10 ≤ 9 := by omega
    have HOR := hid hor
    clear hor hg HD HP
    have hsl := dig_slice hq1 hq2
    obtain ⟨s1, hs1⟩ : ∃ s1, s1 = bs (ub [48 + m % 10]) := ⟨_, rfl⟩
    obtain ⟨s2, hs2⟩ : ∃ s2, s2 = bs (ub ((48 + m % 10) :: acc)) := ⟨_, rfl⟩
    have hadd := fun w => str_add (c := s2) hs1 HS.out (by rw [hs2]; rfl) (by simp; omega) w
    have HS2 := hid hs2
    rw [← hs1] at hsl
    clear hs1 hs2
    by_cases hz : m / 10 = 0
    · have hzK : (m / 10 == 0) = true := by simp [hz]
      have hfin : Hid (dgs 1 24 n [] = (48 + m % 10) :: acc) := hid (by
        rw [← HD2.out, hz]
        cases f' with
        | zero => rfl
        | succ k => unfold dgs; rw [if_neg (by simp)])
      go_wp2_with fail
      go_ret
      exact ⟨_, rfl, by rw [hfin.out, HS2.out], rfl⟩
    · have hzK : (m / 10 == 0) = false := by simpa using hz
      go_wp2_with fail
      go_roundw
      case rel => exact ⟨f', m / 10, (48 + m % 10) :: acc, s2, by go_num, rfl, HS2, by simp; omega, by omega, by omega, HP2, Or.inr (by omega), HD2, trivial⟩
      case measure => simp [intOf]; omega
end Go.Proofs.YteinfhfapelegaaDoor
