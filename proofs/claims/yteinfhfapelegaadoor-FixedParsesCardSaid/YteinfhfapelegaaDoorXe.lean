/- Walks: both Formats. -/
import Derived.Test.YteinfhfapelegaaDoorXd
namespace Go.Proofs.YteinfhfapelegaaDoor
open Go.RowKit
set_option linter.unusedVariables false
set_option linter.unusedSimpArgs false
/-- the table of powers lies -/
def Tens (w : World) : Prop := 0 < w.heap.size ∧ ∀ i : Nat, i < 6 → w.cell? ⟨0, i, none⟩ = some (.int .u64 (10 ^ i))
theorem Tens.below {w w' : World} (h : Tens w) (hb : Below w.heap.size w w') : Tens w' := ⟨Nat.lt_of_lt_of_le h.1 hb.size, fun i hi => (hb.cell h.1).trans (h.2 i hi)⟩
theorem and16 (z : Int) (h1 : 0 ≤ z) (h2 : z < 18446744073709551616) : bits .and .u64 z 65535 = z % 65536 := by
  obtain ⟨m, rfl⟩ := Int.eq_ofNat_of_zero_le h1
  have e := u64_and_nat m 65535 (by omega) (by omega)
  rw [show ((65535 : Nat) : Int) = 65535 from rfl] at e
  rw [e, nat_mask16]
  omega
/-- the text of a magnitude -/
def fmtM (n : Int) : List Int := dgs 1 24 (n / 65536) [] ++ [46] ++ dgs 5 24 (n % 65536 * 100000 / 65536) []
def fmtA (a : Int) : List Int := if a < 0 then 45 :: fmtM (-a) else fmtM a
theorem ub_app (a b : List Int) : ub (a ++ b) = ub a ++ ub b := by simp [ub]
theorem ub_len (a : List Int) : (ub a).length = a.length := by simp [ub]
theorem fmtM_len (n : Int) : (fmtM n).length ≤ 49 := by
  unfold fmtM
  have a := dgs_len 1 24 (n / 65536) []
  have b := dgs_len 5 24 (n % 65536 * 100000 / 65536) []
  simp only [List.length_append, List.length_cons, List.length_nil] at *
  omega
set_option maxHeartbeats 8000000 in
set_option maxRecDepth 100000 in
theorem format_any (a : Int) (h0 : -9223372036854775808 ≤ a) (h1 : a ≤ 9223372036854775807) (w : World) (hT : Tens w) : Calls Tryd.prog 6 #[.int .i64 a] w fun e w' => ∃ s, e = .returned (.string s) ∧ s = bs (ub (fmtA a)) ∧ Below w.heap.size w w' := by
  obtain ⟨n, hn⟩ : ∃ n, n = (if a < 0 then -a else a) := ⟨_, rfl⟩
  have hM := hid (fun w => magnitude_any a h0 h1 w)
  rw [← hn] at hM
  have n0 : 0 ≤ n := by rw [hn]; split <;> omega
  have n1 : n ≤ 9223372036854775808 := by rw [hn]; split <;> omega
  have hF : Hid (fmtA a = if a < 0 then 45 :: fmtM n else fmtM n) := hid (by unfold fmtA; rw [hn]; split <;> rfl)
  have q1 : 0 ≤ n % 65536 := by omega
  have q2 : n % 65536 < 65536 := by omega
  have r1 : 0 ≤ n / 65536 := by omega
  have r2 : n / 65536 < 18446744073709551616 := by omega
  have t5 : w.cell? ⟨0, 5, none⟩ = some (.int .u64 100000) := hT.2 5 (by omega)
  have hT0 := hT.1
  have hand := and16 n n0 (by omega)
  obtain ⟨s1, hs1⟩ : ∃ s1, s1 = bs (ub (dgs 1 24 (n / 65536) [])) := ⟨_, rfl⟩
  obtain ⟨s3, hs3⟩ : ∃ s3, s3 = bs (ub (dgs 5 24 (n % 65536 * 100000 / 65536) [])) := ⟨_, rfl⟩
  obtain ⟨s2, hs2⟩ : ∃ s2, s2 = bs (ub (dgs 1 24 (n / 65536) []) ++ [46]) := ⟨_, rfl⟩
  obtain ⟨s4, hs4⟩ : ∃ s4, s4 = bs (ub (fmtM n)) := ⟨_, rfl⟩
  obtain ⟨s5, hs5⟩ : ∃ s5, s5 = bs (45 :: ub (fmtM n)) := ⟨_, rfl⟩
  have D1 : Hid (∀ w, Calls Tryd.prog 15 #[.int .u64 (n / 65536), .int .i64 1] w fun e w' => e = .returned (.string s1) ∧ Below w.heap.size w w') := hid (fun w => (digits_any (n / 65536) 1 r1 r2 (by omega) (by omega) w).mono fun e w' h => by obtain ⟨s, k1, k2, k3⟩ := h; exact ⟨by rw [k1, k2, hs1], k3⟩)
  have D5 : Hid (∀ w, Calls Tryd.prog 15 #[.int .u64 (n % 65536 * 100000 / 65536), .int .i64 5] w fun e w' => e = .returned (.string s3) ∧ Below w.heap.size w w') := hid (fun w => (digits_any (n % 65536 * 100000 / 65536) 5 (by omega) (by omega) (by omega) (by omega) w).mono fun e w' h => by obtain ⟨s, k1, k2, k3⟩ := h; exact ⟨by rw [k1, k2, hs3], k3⟩)
  have la := dgs_len 1 24 (n / 65536) []
  have lb := dgs_len 5 24 (n % 65536 * 100000 / 65536) []
  have lm := fmtM_len n
  simp only [List.length_nil] at la lb
  have A1 := fun w => str_add (a := s1) (b := { data := #[46] }) (c := s2) (lb := [46]) hs1 rfl hs2 (by rw [ub_len]; simp; omega) w
  have A2 := fun w => str_add (a := s2) (b := s3) (c := s4) hs2 hs3 (by rw [hs4]; unfold fmtM; rw [ub_app, ub_app]; rfl) (by rw [List.length_append, ub_len, ub_len]; simp; omega) w
  have A3 := fun w => str_add (a := { data := #[45] }) (b := s4) (c := s5) (la := [45]) rfl hs4 hs5 (by rw [ub_len]; simp; omega) w
  have HS4 := hid hs4
  have HS5 := hid hs5
  clear hn hs1 hs2 hs3 hs4 hs5 la lb lm hT
  have r3 : n % 65536 * 100000 < 18446744073709551616 := by omega
  have r4 : 0 ≤ n % 65536 * 100000 := by omega
  have K5 : ∀ z : Later w, z.val.cell? ⟨0, 5, none⟩ = some (.int .u64 100000) := fun z => (z.cell hT0).trans t5
  clear t5
  go_enter Tryd.func6, Tryd.ntmps6
  go_upto_region 2 with (first | (go_at_call 14; (with_reducible refine (hM.out _).mono ?_); rintro e w1 ⟨rfl, rfl⟩))
  refine wp_region_later (w0 := w) (Below.refl _ _) (by kernel_rfl) (by kernel_rfl) ?_
  repeat (go_big_quiet_step ((first | (go_at_call 15; with_reducible exact calls_later (D1.out _)) | (go_at_call 15; with_reducible exact calls_later (D5.out _)))))
  refine wpQuiet_nil ?_
  intro _ hw'
  obtain ⟨y, hw''⟩ := hw'
  subst hw''
  rcases Int.lt_or_le a 0 with h | h
  · go_wp2_with fail
    go_ret
    exact ⟨_, rfl, by rw [HS5.out, hF.out, if_pos h]; rfl, y.ok⟩
  · have h' : ¬ (a < 0) := by omega
    go_wp2_with fail
    go_ret
    exact ⟨_, rfl, by rw [HS4.out, hF.out, if_neg (by omega)], y.ok⟩
/-- zeros ahead, to five digits -/
def pad5 : Nat → List Int → List Int
  | 0, l => l
  | k + 1, l => if l.length < 5 then pad5 k (48 :: l) else l
theorem pad5_eq : ∀ (k : Nat) (l : List Int), 5 ≤ k + l.length → pad5 k l = List.replicate (5 - l.length) 48 ++ l
  | 0, l, h => by
    rw [show 5 - l.length = 0 from by omega]
    rfl
  | k + 1, l, h => by
    unfold pad5
    split
    · rename_i h5
      rw [pad5_eq k (48 :: l) (by simp; omega), List.length_cons, show 5 - l.length = (5 - (l.length + 1)) + 1 from by omega, List.replicate_succ', List.append_assoc]
      rfl
    · rw [show 5 - l.length = 0 from by omega]
      rfl
theorem dgs_zero : ∀ (f : Nat) (acc : List Int), dgs 5 f 0 acc = pad5 f acc
  | 0, acc => rfl
  | f + 1, acc => by
    unfold dgs pad5
    by_cases h : acc.length < 5
    · rw [if_pos (Or.inr h), if_pos h]
      exact dgs_zero f (48 :: acc)
    · rw [if_neg (by omega), if_neg h]
theorem dgs_pad : ∀ (f : Nat) (n : Int) (acc : List Int), 0 ≤ n → acc.length + f = 24 → dgs 5 f n acc = pad5 5 (dgs 1 f n acc)
  | 0, n, acc, h0, h => by
    show acc = pad5 5 acc
    rw [pad5_eq 5 acc (by omega), show 5 - acc.length = 0 from by omega]
    rfl
  | f + 1, n, acc, h0, h => by
    by_cases hn : 0 < n
    · unfold dgs
      rw [if_pos (Or.inl hn), if_pos (Or.inl hn)]
      exact dgs_pad f (n / 10) _ (by omega) (by simp; omega)
    · obtain rfl : n = 0 := by omega
      by_cases ha : acc.length < 1
      · have e5 : dgs 5 (f + 1) 0 acc = dgs 5 f 0 (48 :: acc) := by
          show (if _ then _ else _) = _
          rw [if_pos (Or.inr (by omega))]
          rfl
        have e1 : dgs 1 (f + 1) 0 acc = dgs 1 f 0 (48 :: acc) := by
          show (if _ then _ else _) = _
          rw [if_pos (Or.inr ha)]
          rfl
        rw [e5, e1]
        exact dgs_pad f 0 _ (by omega) (by simp; omega)
      · have e1 : dgs 1 (f + 1) 0 acc = acc := by
          show (if _ then _ else _) = _
          rw [if_neg (by omega)]
        rw [e1, dgs_zero, pad5_eq (f + 1) acc (by omega), pad5_eq 5 acc (by omega)]
set_option maxHeartbeats 8000000 in
set_option maxRecDepth 100000 in
theorem rformat_any (a : Int) (h0 : -9223372036854775808 ≤ a) (h1 : a ≤ 9223372036854775807) (w : World) : Calls Tryd.prog 7 #[.int .i64 a] w fun e w' => ∃ s, e = .returned (.string s) ∧ s = bs (ub (fmtA a)) ∧ w = w' := by
  obtain ⟨n, hn⟩ : ∃ n, n = (if a < 0 then -a else a) := ⟨_, rfl⟩
  have hM := hid (fun w => rmagnitude_any a h0 h1 w)
  rw [← hn] at hM
  have n0 : 0 ≤ n := by rw [hn]; split <;> omega
  have n1 : n ≤ 9223372036854775808 := by rw [hn]; split <;> omega
  have hF : Hid (fmtA a = if a < 0 then 45 :: fmtM n else fmtM n) := hid (by unfold fmtA; rw [hn]; split <;> rfl)
  have q1 : 0 ≤ n % 65536 := by omega
  have q2 : n % 65536 < 65536 := by omega
  have r1 : 0 ≤ n / 65536 := by omega
  have r2 : n / 65536 < 18446744073709551616 := by omega
  have r3 : n % 65536 * 100000 < 18446744073709551616 := by omega
  have r4 : 0 ≤ n % 65536 * 100000 := by omega
  have r5 : 0 ≤ n % 65536 * 100000 / 65536 := by omega
  have HPAD := hid (dgs_pad 24 (n % 65536 * 100000 / 65536) [] r5 rfl)
  obtain ⟨s1, hs1⟩ : ∃ s1, s1 = bs (ub (dgs 1 24 (n / 65536) [])) := ⟨_, rfl⟩
  obtain ⟨s2, hs2⟩ : ∃ s2, s2 = bs (ub (dgs 1 24 (n / 65536) []) ++ [46]) := ⟨_, rfl⟩
  obtain ⟨s4, hs4⟩ : ∃ s4, s4 = bs (ub (fmtM n)) := ⟨_, rfl⟩
  obtain ⟨s5, hs5⟩ : ∃ s5, s5 = bs (45 :: ub (fmtM n)) := ⟨_, rfl⟩
  obtain ⟨s0, hs0⟩ : ∃ s0, s0 = bs (ub (dgs 1 24 (n % 65536 * 100000 / 65536) [])) := ⟨_, rfl⟩
  have D1 : Hid (∀ w, Calls Tryd.prog 17 #[.int .u64 (n / 65536)] w fun e w' => e = .returned (.string s1) ∧ w = w') := hid (fun w => (rdigits_any (n / 65536) r1 r2 w).mono fun e w' h => by obtain ⟨s, k1, k2, k3⟩ := h; exact ⟨by rw [k1, k2, hs1], k3⟩)
  have D5 : Hid (∀ w, Calls Tryd.prog 17 #[.int .u64 (n % 65536 * 100000 / 65536)] w fun e w' => e = .returned (.string s0) ∧ w = w') := hid (fun w => (rdigits_any (n % 65536 * 100000 / 65536) r5 (by omega) w).mono fun e w' h => by obtain ⟨s, k1, k2, k3⟩ := h; exact ⟨by rw [k1, k2, hs0], k3⟩)
  have la := dgs_len 1 24 (n / 65536) []
  have lc := dgs_len 1 24 (n % 65536 * 100000 / 65536) []
  have lm := fmtM_len n
  simp only [List.length_nil] at la lc
  have A1 := fun w => str_add (a := s1) (b := { data := #[46] }) (c := s2) (lb := [46]) hs1 rfl hs2 (by rw [ub_len]; simp; omega) w
  have A3 := fun w => str_add (a := { data := #[45] }) (b := s4) (c := s5) (la := [45]) rfl hs4 hs5 (by rw [ub_len]; simp; omega) w
  have A2 : Hid (∀ s3, s3 = bs (ub (dgs 5 24 (n % 65536 * 100000 / 65536) [])) → ∀ w, (Op.stringOp .add s2 s3).run Tryd.prog w = .ok (.string s4) w) := hid (fun s3 hs3 w => str_add (a := s2) (b := s3) (c := s4) hs2 hs3 (by rw [hs4]; unfold fmtM; rw [ub_app, ub_app]; rfl) (by rw [List.length_append, ub_len, ub_len]; have := dgs_len 5 24 (n % 65536 * 100000 / 65536) []; simp at *; omega) w)
  have HS0 := hid hs0
  have HS4 := hid hs4
  have HS5 := hid hs5
  clear hn hs1 hs2 hs4 hs5 hs0 la lm
  go_enter Tryd.func7, Tryd.ntmps7
  go_upto_region 3 with (first
    | (go_at_call 16; (with_reducible refine (hM.out _).mono ?_); rintro e w1 ⟨rfl, rfl⟩)
    | (go_at_call 17; (with_reducible refine (D5.out _).mono ?_); rintro e w1 ⟨rfl, rfl⟩))
  go_loopw [4] (fun s4 wr => ∃ (acc : List Int) (s : ByteArray) (k : Nat), s4 = .string s ∧ Hid (s = bs (ub acc)) ∧ acc.length ≤ 24 ∧ s.size = acc.length ∧ 5 ≤ k + acc.length ∧ Hid (pad5 k acc = dgs 5 24 (n % 65536 * 100000 / 65536) []) ∧ w = wr) (fun s4 _ => 5 - (match s4 with | .string s => s.size | _ => 0))
  case atStart => exact ⟨_, s0, 5, rfl, HS0, by omega, by rw [HS0.out, bs_size, ub_len], by omega, hid HPAD.out.symm, rfl⟩
  case round =>
    obtain ⟨acc, s, k, rfl, HS, hal, hsz, hk, HD, rfl⟩ := hrel
    have halI : (acc.length : Int) ≤ 24 := by omega
    by_cases h5 : acc.length < 5
    · have h5I : (acc.length : Int) < 5 := by omega
      obtain ⟨k', rfl⟩ : ∃ k', k = k' + 1 := ⟨k - 1, by omega⟩
      obtain ⟨s6, hs6⟩ : ∃ s6, s6 = bs (ub (48 :: acc)) := ⟨_, rfl⟩
      have A6 := fun w => str_add (a := { data := #[48] }) (b := s) (c := s6) (la := [48]) rfl HS.out hs6 (by rw [ub_len]; simp; omega) w
      have hz6 : s6.size = acc.length + 1 := by rw [hs6, bs_size, ub_len]; rfl
      have HS6 := hid hs6
      have HZ6 := hid hz6
      clear hs6 hz6
      go_wp2_with fail
      go_roundw
      case rel => exact ⟨48 :: acc, s6, k', rfl, HS6, by simp; omega, HZ6.out, by simp; omega, hid (by have := HD.out; unfold pad5 at this; rw [if_pos h5] at this; exact this), trivial⟩
      case measure => simp [HZ6.out, hsz]; omega
    · have h5I : ¬ ((acc.length : Int) < 5) := by omega
      have hfin : acc = dgs 5 24 (n % 65536 * 100000 / 65536) [] := by
        rw [← HD.out, pad5_eq k acc hk, show 5 - acc.length = 0 from by omega]
        rfl
      have A2' := A2.out s (by rw [HS.out, hfin])
      clear hfin A2
      rcases Int.lt_or_le a 0 with h | h
      · go_wp2_with (first | (go_at_call 17; (with_reducible refine (D1.out _).mono ?_); rintro e w1 ⟨rfl, rfl⟩))
        go_ret
        exact ⟨_, rfl, by rw [HS5.out, hF.out, if_pos h]; rfl, rfl⟩
      · go_wp2_with (first | (go_at_call 17; (with_reducible refine (D1.out _).mono ?_); rintro e w1 ⟨rfl, rfl⟩))
        go_ret
        exact ⟨_, rfl, by rw [HS4.out, hF.out, if_neg (by omega)], rfl⟩
end Go.Proofs.YteinfhfapelegaaDoor
