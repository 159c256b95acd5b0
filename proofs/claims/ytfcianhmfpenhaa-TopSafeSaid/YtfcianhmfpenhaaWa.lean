/- Walks: what the functions of package fixed and of its reference compute. -/
import Derived.Test.YtfcianhmfpenhaaRows
import Derived.Test.YtfcianhmfpenhaaBase
import Derived.Test.YtfcianhmfpenhaaPlain
namespace Go.Proofs.Ytfcianhmfpenhaa
open Go.RowKit

abbrev pt (x y : Int) : Value := .agg #[.int .i64 x, .int .i64 y]
theorem box2 {w w' : World} {o o' : Obj} (hb : Below ((w.alloc o).alloc o').heap.size ((w.alloc o).alloc o') w') : Below w.heap.size w w' := below_box (below_box hb)
theorem box3 {w w' : World} {o o' o'' : Obj} (hb : Below (((w.alloc o).alloc o').alloc o'').heap.size (((w.alloc o).alloc o').alloc o'') w') : Below w.heap.size w w' := below_box (box2 hb)
set_option maxHeartbeats 400000 in
theorem square_any (x y : Int) (hx1 : -1073741824 ≤ x) (hx2 : x ≤ 1073741824) (hy1 : -1073741824 ≤ y) (hy2 : y ≤ 1073741824) (w : World) : Calls Try.prog 52 #[pt x y] w fun e w' => e = .returned (.int .i64 (sqr x y)) ∧ Below w.heap.size w w' := by
  have p1 := sq_self_nonneg x
  have p2 := sq_self_nonneg y
  have p3 := sq_abs_le hx1 hx2
  have p4 := sq_abs_le hy1 hy2
  go_enter Try.func52, Try.ntmps52
  go_wp2
  go_ret
  exact ⟨rfl, by go_grown⟩
theorem or_join (k : Nat) (r : Int) (hr : 0 ≤ r) (hm : r % 2 ^ (k + 1) = 0) (hb : r + 2 ^ (k + 1) ≤ 4294967296) : bits .or .u64 r (2 ^ k) = r + 2 ^ k := by
  obtain ⟨m, rfl⟩ := Int.eq_ofNat_of_zero_le hr
  have e : ((2 : Int) ^ k) = ((2 ^ k : Nat) : Int) := by push_cast; rfl
  have e2 : ((2 : Int) ^ (k + 1)) = ((2 ^ (k + 1) : Nat) : Int) := by push_cast; rfl
  have hlt : (2 ^ (k + 1) : Nat) ≤ 4294967296 := by rw [e2] at hb; omega
  have hlt2 : (2 ^ k : Nat) ≤ 4294967296 := by rw [Nat.pow_succ] at hlt; omega
  have hm' : m % 2 ^ (k + 1) = 0 := by rw [e2] at hm; omega
  rw [e, u64_or_nat m (2 ^ k) (by rw [e2] at hb; omega) (by omega), nat_join (k + 1) m (2 ^ k) hm' (by rw [Nat.pow_succ]; have := Nat.two_pow_pos k; omega)]
  push_cast
  rfl
/-- the bit at the head of a round with k bits to come -/
def bitv : Nat → Int
  | 0 => 0
  | k + 1 => 2 ^ k
theorem bitv_half (k : Nat) : (2 ^ k : Int) / 2 = bitv k := by
  cases k with
  | zero => rfl
  | succ k => simp only [bitv, Int.pow_succ]; omega
set_option maxHeartbeats 2000000 in
theorem root_any (n : Int) (hn : n ≤ 9223372036854775807) (w : World) : Calls Try.prog 53 #[.int .i64 n] w fun e w' => e = .returned (.int .i64 (isq n)) ∧ w = w' := by
  by_cases h0 : n ≤ 0
  · go_enter Try.func53, Try.ntmps53
    go_wp2
    go_ret
    exact ⟨ret_int (isq_neg h0).symm, rfl⟩
  · have hpos : 0 < n := by omega
    clear h0
    go_enter Try.func53, Try.ntmps53
    go_wp2
    go_loop [3, 4] (fun x b => ∃ (k : Nat) (r : Int), k ≤ 32 ∧ 0 ≤ r ∧ Hid (r % 2 ^ k = 0 ∧ r + 2 ^ k ≤ 4294967296 ∧ isqB k r n = isq n) ∧ x = .int .u64 r ∧ b = .int .u64 (bitv k)) (fun _ b => (intOf b).toNat)
    case atStart => exact ⟨32, 0, by omega, by omega, hid ⟨by decide, by decide, rfl⟩, rfl, rfl⟩
    case round =>
      obtain ⟨k, r, hk, hr, HH, rfl, rfl⟩ := hrel
      have hrb := HH.out.2.1
      cases k with
      | zero =>
        have hr2 : r ≤ 4294967295 := by simp at hrb; omega
        have eB : bitv 0 = 0 := rfl
        clear hrb
        go_wp2
        go_ret
        exact ⟨ret_int HH.out.2.2, rfl⟩
      | succ k =>
        have hp := two_pow_pos k
        have ho := or_join k r hr HH.out.1 hrb
        have eB : bitv (k + 1) = 2 ^ k := rfl
        have eH := bitv_half k
        have e2 : (2 : Int) ^ (k + 1) = 2 ^ k + 2 ^ k := by rw [Int.pow_succ]; omega
        have hpb : (2 : Int) ^ k ≤ 2147483648 := by rw [e2] at hrb; omega
        have hx1 : 0 ≤ r + 2 ^ k := by omega
        have hx2 : r + 2 ^ k ≤ 4294967295 := by rw [e2] at hrb; omega
        have hm : ∀ s : Int, s = 0 ∨ s = 2 ^ k → (r + s) % 2 ^ k = 0 := fun s hs => by
          have h1 := HH.out.1
          rw [e2] at h1
          have h2 : r % 2 ^ k = 0 := by
            have h3 : (2 ^ k + 2 ^ k : Int) ∣ r := Int.dvd_of_emod_eq_zero h1
            have h4 : (2 ^ k : Int) ∣ 2 ^ k + 2 ^ k := ⟨2, by omega⟩
            exact Int.emod_eq_zero_of_dvd (Int.dvd_trans h4 h3)
          rcases hs with rfl | rfl
          · simpa using h2
          · rw [Int.add_emod, h2]; simp
        have HM := hid hm
        have HE2 := hid e2
        have HHH := hid HH.out.2.2
        have hrb2 : r + 2 ^ k + 2 ^ k ≤ 4294967296 := by rw [e2] at hrb; omega
        clear e2 hm hrb HH
        have hq1 : 0 ≤ (r + 2 ^ k) * (r + 2 ^ k) := Int.mul_nonneg hx1 hx1
        have hq2 : (r + 2 ^ k) * (r + 2 ^ k) ≤ 4294967295 * 4294967295 := Int.mul_le_mul hx2 hx2 hx1 (by omega)
        have hbig : (4294967295 : Int) * 4294967295 = 18446744065119617025 := by decide
        rw [hbig] at hq2
        clear hbig
        generalize hP : (2 : Int) ^ k = p at *
        have HP := hid hP
        clear hP
        by_cases hle : (r + p) * (r + p) ≤ n
        · go_wp2
          go_round
          case rel =>
            refine ⟨k, r + p, by omega, hx1, hid ⟨?_, ?_, ?_⟩, rfl, rfl⟩
            · rw [HP.out]; exact HM.out p (Or.inr rfl)
            · rw [HP.out]; exact hrb2
            · rw [← HHH.out, isqB_yes (by rw [HP.out]; exact hle), HP.out]
          case measure => simp [intOf]; omega
        · have hle' : n < (r + p) * (r + p) := by omega
          go_wp2
          go_round
          case rel =>
            refine ⟨k, r, by omega, hr, hid ⟨?_, ?_, ?_⟩, rfl, rfl⟩
            · rw [HP.out]; have := HM.out 0 (Or.inl rfl); simpa using this
            · rw [HP.out]; omega
            · rw [← HHH.out, isqB_no (by rw [HP.out]; omega)]
          case measure => simp [intOf]; omega
set_option maxHeartbeats 400000 in
theorem add_any (x1 y1 x2 y2 : Int) (hx1 : -1152921504606846976 ≤ x1) (hx1' : x1 ≤ 1152921504606846976) (hy1 : -1152921504606846976 ≤ y1) (hy1' : y1 ≤ 1152921504606846976) (hx2 : -1152921504606846976 ≤ x2) (hx2' : x2 ≤ 1152921504606846976) (hy2 : -1152921504606846976 ≤ y2) (hy2' : y2 ≤ 1152921504606846976) (w : World) :
    Calls Try.prog 44 #[pt x1 y1, pt x2 y2] w fun e w' => e = .returned (pt (x1 + x2) (y1 + y2)) ∧ Below w.heap.size w w' := by
  go_enter Try.func44, Try.ntmps44
  go_wp2
  go_returns
  exact ⟨rfl, by go_grown⟩
set_option maxHeartbeats 400000 in
theorem sub_any (x1 y1 x2 y2 : Int) (hx1 : -1152921504606846976 ≤ x1) (hx1' : x1 ≤ 1152921504606846976) (hy1 : -1152921504606846976 ≤ y1) (hy1' : y1 ≤ 1152921504606846976) (hx2 : -1152921504606846976 ≤ x2) (hx2' : x2 ≤ 1152921504606846976) (hy2 : -1152921504606846976 ≤ y2) (hy2' : y2 ≤ 1152921504606846976) (w : World) :
    Calls Try.prog 43 #[pt x1 y1, pt x2 y2] w fun e w' => e = .returned (pt (x1 - x2) (y1 - y2)) ∧ Below w.heap.size w w' := by
  go_enter Try.func43, Try.ntmps43
  go_wp2
  go_returns
  exact ⟨rfl, by go_grown⟩
theorem length_any (x y : Int) (hx1 : -1073741824 ≤ x) (hx2 : x ≤ 1073741824) (hy1 : -1073741824 ≤ y) (hy2 : y ≤ 1073741824) (w : World) : Calls Try.prog 45 #[pt x y] w fun e w' => e = .returned (.int .i64 (isq (sqr x y))) ∧ Below w.heap.size w w' := by
  have h1 := sqr_le hx1 hx2 hy1 hy2
  have h2 : sqr x y ≤ 9223372036854775807 := by omega
  obtain ⟨h3, h4⟩ := isq_le h2
  clear h1
  go_enter Try.func45, Try.ntmps45
  go_wp2_with (first
    | (go_at_call 52; refine (square_any x y hx1 hx2 hy1 hy2 _).mono ?_; rintro e w' ⟨rfl, hb⟩)
    | (go_at_call 53; refine (root_any _ h2 _).mono ?_; rintro e w' ⟨rfl, rfl⟩))
  go_ret
  exact ⟨rfl, below_box hb⟩
theorem dist_any (x1 y1 x2 y2 : Int) (hx1 : -536870912 ≤ x1) (hx1' : x1 ≤ 536870912) (hy1 : -536870912 ≤ y1) (hy1' : y1 ≤ 536870912) (hx2 : -536870912 ≤ x2) (hx2' : x2 ≤ 536870912) (hy2 : -536870912 ≤ y2) (hy2' : y2 ≤ 536870912) (w : World) :
    Calls Try.prog 37 #[pt x1 y1, pt x2 y2] w fun e w' => e = .returned (.int .i64 (isq (sqr (x1 - x2) (y1 - y2)))) ∧ Below w.heap.size w w' := by
  go_enter Try.func37, Try.ntmps37
  go_wp2_with (first
    | (go_at_call 43; refine (sub_any x1 y1 x2 y2 (by omega) (by omega) (by omega) (by omega) (by omega) (by omega) (by omega) (by omega) _).mono ?_; rintro e w' ⟨rfl, hb⟩)
    | (go_at_call 45; refine (length_any (x1 - x2) (y1 - y2) (by omega) (by omega) (by omega) (by omega) _).mono ?_; rintro e w' ⟨rfl, hb2⟩))
  go_ret
  exact ⟨rfl, box2 (below_then hb hb2)⟩
theorem clamp_any (n lo hi : Int) (w : World) : Calls Try.prog 51 #[.int .i64 n, .int .i64 lo, .int .i64 hi] w fun e w' => e = .returned (.int .i64 (clampI n lo hi)) ∧ w = w' := by
  go_enter Try.func51, Try.ntmps51
  go_wp2
  all_goals (go_ret; exact ⟨ret_int (by unfold clampI; (repeat' split) <;> omega), rfl⟩)
set_option maxHeartbeats 400000 in
theorem msquare_any (x y : Int) (hx1 : -1073741824 ≤ x) (hx2 : x ≤ 1073741824) (hy1 : -1073741824 ≤ y) (hy2 : y ≤ 1073741824) (w : World) : Calls Try.prog 39 #[pt x y] w fun e w' => e = .returned (.int .i64 (sqr x y)) ∧ Below w.heap.size w w' := by
  have p1 := sq_self_nonneg x
  have p2 := sq_self_nonneg y
  have p3 := sq_abs_le hx1 hx2
  have p4 := sq_abs_le hy1 hy2
  go_enter Try.func39, Try.ntmps39
  go_wp2
  go_ret
  exact ⟨rfl, by go_grown⟩
set_option maxHeartbeats 400000 in
theorem dot_any (x1 y1 x2 y2 : Int) (p1 : -1152921504606846976 ≤ x1 * x2) (p2 : x1 * x2 ≤ 1152921504606846976) (p3 : -1152921504606846976 ≤ y1 * y2) (p4 : y1 * y2 ≤ 1152921504606846976) (w : World) :
    Calls Try.prog 22 #[pt x1 y1, pt x2 y2] w fun e w' => e = .returned (.int .i64 (x1 * x2 + y1 * y2)) ∧ Below w.heap.size w w' := by
  go_enter Try.func22, Try.ntmps22
  go_wp2
  go_returns
  exact ⟨rfl, by go_grown⟩
end Go.Proofs.Ytfcianhmfpenhaa
