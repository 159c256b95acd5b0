/- Walks: the check of a path. -/
import Derived.Test.YtdcclpdnnhaeoaaWd
namespace Go.Proofs.Ytdcclpdnnhaeoaa
open Go.RowKit
set_option linter.unusedVariables false
/-- points, in memory -/
def Wants (w : World) (a : Option Addr) (len : Nat) (X Y : Nat → Int) : Prop := 0 < len → ∃ b off, a = some ⟨b, off, none⟩ ∧ b < w.heap.size ∧ ∀ i, i < len → w.cell? ⟨b, off + i * 2, none⟩ = some (.int .i64 (X i)) ∧ w.cell? ⟨b, off + i * 2 + 1, none⟩ = some (.int .i64 (Y i))
theorem wants_below {w w' : World} {a : Option Addr} {len : Nat} {X Y : Nat → Int} (h : Wants w a len X Y) (hb : Below w.heap.size w w') : Wants w' a len X Y := fun hp => by
  obtain ⟨b, off, h1, h2, h3⟩ := h hp
  exact ⟨b, off, h1, Nat.lt_of_lt_of_le h2 hb.size, fun i hi => ⟨(hb.cell h2).trans (h3 i hi).1, (hb.cell h2).trans (h3 i hi).2⟩⟩
/-- are the first points in reach? -/
def inAll (X Y : Nat → Int) : Nat → Bool
  | 0 => true
  | k + 1 => inAll X Y k && rchB (X k) (Y k)
theorem inAll_get {X Y : Nat → Int} : ∀ {n : Nat}, inAll X Y n = true → ∀ i, i < n → rchB (X i) (Y i) = true
  | 0, _, i, hi => by omega
  | n + 1, h, i, hi => by
    simp only [inAll, Bool.and_eq_true] at h
    rcases Nat.lt_or_ge i n with hh | hh
    · exact inAll_get h.1 i hh
    · obtain rfl : i = n := by omega
      exact h.2
theorem inAll_no {X Y : Nat → Int} {n i : Nat} (hi : i < n) (h : rchB (X i) (Y i) = false) : inAll X Y n = false := by
  cases e : inAll X Y n with
  | false => rfl
  | true => rw [inAll_get e i hi] at h; cases h
theorem inAll_yes {X Y : Nat → Int} : ∀ {n : Nat}, (∀ i, i < n → rchB (X i) (Y i) = true) → inAll X Y n = true
  | 0, _ => rfl
  | n + 1, h => by
    simp only [inAll, Bool.and_eq_true]
    exact ⟨inAll_yes (fun i hi => h i (by omega)), h n (by omega)⟩
/-- the error of a path -/
def pchk (len : Nat) (X Y : Nat → Int) : Int := if len = 0 then 6 else if 4096 < len then 3 else if inAll X Y len then 0 else 4
theorem pchk_zero {len : Nat} {X Y : Nat → Int} (h : pchk len X Y = 0) : 0 < len ∧ len ≤ 4096 ∧ inAll X Y len = true := by
  unfold pchk at h
  split at h
  · cases h
  · split at h
    · cases h
    · split at h
      · rename_i h1 h2 h3; exact ⟨by omega, by omega, h3⟩
      · cases h
theorem rreach_any (x y : Int) (w : World) : Calls Try.prog 43 #[pt x y] w fun e w' => e = .returned (.bool (rchB x y)) ∧ Below w.heap.size w w' := by
  rcases Int.lt_or_le x (-1048576) with a | a
  · have hv : Hid (rchB x y = false) := hid (by unfold rchB inB; simp; omega)
    go_enter Try.func43, Try.ntmps43
    go_wp2
    go_ret
    exact ⟨ret_bool hv.out.symm, by go_grown⟩
  · rcases Int.lt_or_le 1048576 x with b | b
    · have hv : Hid (rchB x y = false) := hid (by unfold rchB inB; simp; omega)
      go_enter Try.func43, Try.ntmps43
      go_wp2
      go_ret
      exact ⟨ret_bool hv.out.symm, by go_grown⟩
    · rcases Int.lt_or_le y (-1048576) with c | c
      · have hv : Hid (rchB x y = false) := hid (by unfold rchB inB; simp; omega)
        go_enter Try.func43, Try.ntmps43
        go_wp2
        go_ret
        exact ⟨ret_bool hv.out.symm, by go_grown⟩
      · rcases Int.lt_or_le 1048576 y with d | d
        · have hv : Hid (rchB x y = false) := hid (by unfold rchB inB; simp; omega)
          go_enter Try.func43, Try.ntmps43
          go_wp2
          go_ret
          exact ⟨ret_bool (by rw [hv.out] <;> (try simp) <;> (try omega)), by go_grown⟩
        · have hv : Hid (rchB x y = true) := hid (by unfold rchB inB; simp; omega)
          go_enter Try.func43, Try.ntmps43
          go_wp2
          go_ret
          exact ⟨ret_bool (by rw [hv.out] <;> (try simp) <;> (try omega)), by go_grown⟩
set_option maxHeartbeats 2000000 in
theorem pcheck_any (a : Option Addr) (len cap : Nat) (X Y : Nat → Int) (w : World) (ha : Hid (Wants w a len X Y)) : Calls Try.prog 24 #[.slice a len cap] w fun e w' => e = .returned (.int .i64 (pchk len X Y)) ∧ Below w.heap.size w w' := by
  by_cases h0 : len = 0
  · have hv : Hid (pchk len X Y = 6) := hid (by unfold pchk; rw [if_pos h0])
    have h0' : (len : Int) = 0 := by omega
    go_enter Try.func24, Try.ntmps24
    go_wp2_with fail
    go_ret
    exact ⟨ret_int hv.out.symm, by go_grown⟩
  · have h0' : ((len : Int) == 0) = false := by simp; omega
    by_cases h1 : 4096 < len
    · have hv : Hid (pchk len X Y = 3) := hid (by unfold pchk; rw [if_neg h0, if_pos h1])
      have h1' : 4096 < (len : Int) := by omega
      go_enter Try.func24, Try.ntmps24
      go_wp2_with fail
      go_ret
      exact ⟨ret_int hv.out.symm, by go_grown⟩
    · have h1' : (len : Int) ≤ 4096 := by omega
      have HNo : Hid (∀ i, i < len → rchB (X i) (Y i) = false → pchk len X Y = 4) := hid (fun i hi h => by unfold pchk; rw [if_neg h0, if_neg h1, inAll_no hi h]; rfl)
      have HYes : Hid (inAll X Y len = true → pchk len X Y = 0) := hid (fun h => by unfold pchk; rw [if_neg h0, if_neg h1, h]; rfl)
      clear h1
      go_enter Try.func24, Try.ntmps24
      go_wp2_with fail
      go_loopw [15] (fun s15 wr => ∃ k : Nat, s15 = .int .i64 k ∧ k ≤ len ∧ Hid (inAll X Y k = true) ∧ Below w.heap.size w wr) (fun s15 _ => len - (intOf s15).toNat)
      case atStart => exact ⟨0, rfl, Nat.zero_le _, hid rfl, Below.refl _ _⟩
      case round =>
        obtain ⟨k, rfl, hk, HA, hb⟩ := hrel
        by_cases hkT : k < len
        · obtain ⟨b, off, rfl, hbw, hcell⟩ := ha.out (by omega)
          obtain ⟨x0, x1⟩ := hcell k hkT
          clear hcell
          have hkI : (k : Int) < (len : Int) := by omega
          have hkI0 : (0 : Int) ≤ (k : Int) := by omega
          have y0 : wr.cell? ⟨b, off + k * 2, none⟩ = some (.int .i64 (X k)) := (hb.cell hbw).trans x0
          have y1 : wr.cell? ⟨b, off + k * 2 + 1, none⟩ = some (.int .i64 (Y k)) := (hb.cell hbw).trans x1
          clear x0 x1
          have HS : Hid (rchB (X k) (Y k) = true → inAll X Y (k + 1) = true) := hid (fun h => by simp only [inAll, HA.out, h]; rfl)
          have HN := hid (HNo.out k hkT)
          have HE : Hid (rchB (X k) (Y k) = (inB (X k) (-1048576) 1048576 && inB (Y k) (-1048576) 1048576)) := hid rfl
          cases e1 : inB (X k) (-1048576) 1048576 with
          | false =>
            rw [e1] at HE
            go_wp2_with (first | (go_at_call 25; (with_reducible refine (treach_any _ _).mono ?_); rintro e w' ⟨rfl, rfl⟩))
            go_ret
            exact ⟨ret_int (HN.out HE.out).symm, hb.alloc hb.size _⟩
          | true =>
            cases e2 : inB (Y k) (-1048576) 1048576 with
            | false =>
              rw [e1, e2] at HE
              go_wp2_with (first | (go_at_call 25; (with_reducible refine (treach_any _ _).mono ?_); rintro e w' ⟨rfl, rfl⟩))
              go_ret
              exact ⟨ret_int (HN.out HE.out).symm, hb.alloc hb.size _⟩
            | true =>
              rw [e1, e2] at HE
              go_wp2_with (first | (go_at_call 25; (with_reducible refine (treach_any _ _).mono ?_); rintro e w' ⟨rfl, rfl⟩))
              go_roundw
              case rel => exact ⟨k + 1, by go_num, by omega, hid (HS.out HE.out), hb.alloc hb.size _⟩
              case measure => simp [intOf]; omega
        · obtain rfl : k = len := by omega
          go_wp2_with fail
          go_ret
          exact ⟨ret_int (HYes.out HA.out).symm, hb⟩
set_option maxHeartbeats 2000000 in
theorem rpath_any (a : Option Addr) (len cap : Nat) (X Y : Nat → Int) (w : World) (ha : Hid (Wants w a len X Y)) : Calls Try.prog 26 #[.slice a len cap] w fun e w' => e = .returned (.int .i64 (pchk len X Y)) ∧ Below w.heap.size w w' := by
  by_cases h0 : len = 0
  · have hv : Hid (pchk len X Y = 6) := hid (by unfold pchk; rw [if_pos h0])
    have h0' : (len : Int) = 0 := by omega
    go_enter Try.func26, Try.ntmps26
    go_wp2_with fail
    go_ret
    exact ⟨ret_int hv.out.symm, by go_grown⟩
  · have h0' : ((len : Int) == 0) = false := by simp; omega
    by_cases h1 : 4096 < len
    · have hv : Hid (pchk len X Y = 3) := hid (by unfold pchk; rw [if_neg h0, if_pos h1])
      have h1' : 4096 < (len : Int) := by omega
      go_enter Try.func26, Try.ntmps26
      go_wp2_with fail
      go_ret
      exact ⟨ret_int hv.out.symm, by go_grown⟩
    · have h1' : (len : Int) ≤ 4096 := by omega
      have HNo : Hid (∀ i, i < len → rchB (X i) (Y i) = false → pchk len X Y = 4) := hid (fun i hi h => by unfold pchk; rw [if_neg h0, if_neg h1, inAll_no hi h]; rfl)
      have HYes : Hid (inAll X Y len = true → pchk len X Y = 0) := hid (fun h => by unfold pchk; rw [if_neg h0, if_neg h1, h]; rfl)
      clear h1
      go_enter Try.func26, Try.ntmps26
      go_wp2_with fail
      go_loopw [3] (fun s15 wr => ∃ k : Nat, s15 = .int .i64 k ∧ k ≤ len ∧ Hid (inAll X Y k = true) ∧ Below w.heap.size w wr) (fun s15 _ => len - (intOf s15).toNat)
      case atStart => exact ⟨0, rfl, Nat.zero_le _, hid rfl, Below.refl _ _⟩
      case round =>
        obtain ⟨k, rfl, hk, HA, hb⟩ := hrel
        by_cases hkT : k < len
        · obtain ⟨b, off, rfl, hbw, hcell⟩ := ha.out (by omega)
          obtain ⟨x0, x1⟩ := hcell k hkT
          clear hcell
          have hkI : (k : Int) < (len : Int) := by omega
          have hkI0 : (0 : Int) ≤ (k : Int) := by omega
          have y0 : wr.cell? ⟨b, off + k * 2, none⟩ = some (.int .i64 (X k)) := (hb.cell hbw).trans x0
          have y1 : wr.cell? ⟨b, off + k * 2 + 1, none⟩ = some (.int .i64 (Y k)) := (hb.cell hbw).trans x1
          clear x0 x1
          have HS : Hid (rchB (X k) (Y k) = true → inAll X Y (k + 1) = true) := hid (fun h => by simp only [inAll, HA.out, h]; rfl)
          have HN := hid (HNo.out k hkT)
          have HR := hid (fun w => rreach_any (X k) (Y k) w)
          cases e1 : rchB (X k) (Y k) with
          | false =>
            rw [e1] at HN HR
            go_wp2_with (first | (go_at_call 43; (with_reducible refine (HR.out _).mono ?_); rintro e w5 ⟨rfl, hb5⟩))
            go_ret
            exact ⟨ret_int (HN.out trivial).symm, hb.trans (hb5.mono hb.size)⟩
          | true =>
            rw [e1] at HS HR
            go_wp2_with (first | (go_at_call 43; (with_reducible refine (HR.out _).mono ?_); rintro e w5 ⟨rfl, hb5⟩))
            go_roundw
            case rel => exact ⟨k + 1, by go_num, by omega, hid (HS.out trivial), hb.trans (hb5.mono hb.size)⟩
            case measure => simp [intOf]; omega
        · obtain rfl : k = len := by omega
          go_wp2_with fail
          go_ret
          exact ⟨ret_int (HYes.out HA.out).symm, hb⟩
end Go.Proofs.Ytdcclpdnnhaeoaa
