/- Walks: a tracker that is refused. -/
import Derived.Test.YtdcclpdnnhaeoaaWl
namespace Go.Proofs.Ytdcclpdnnhaeoaa
open Go.RowKit
set_option linter.unusedVariables false
set_option linter.unusedSimpArgs false
theorem pcheck_long (a : Option Addr) (len cap : Nat) (h1 : 4096 < len) (w : World) : Calls Try.prog 24 #[.slice a len cap] w fun e w' => e = .returned (.int .i64 3) ∧ Below w.heap.size w w' := by
  have h0' : ((len : Int) == 0) = false := by simp; omega
  have h1' : 4096 < (len : Int) := by omega
  go_enter Try.func24, Try.ntmps24
  go_wp2_with fail
  go_ret
  exact ⟨rfl, by go_grown⟩
set_option maxHeartbeats 2000000 in
theorem new_path (a : Option Addr) (len cap : Nat) (er S A B H M ah tl : Int) (he : er ≠ 0) (w : World) (HP : Hid (∀ w', Below w.heap.size w w' → Calls Try.prog 24 #[.slice a len cap] w' fun e w'' => e = .returned (.int .i64 er) ∧ Below w'.heap.size w' w'')) :
    Calls Try.prog 8 #[.slice a len cap, lim S A B H M, .int .i64 ah, .int .i64 tl] w fun e w' => e = .returned (.tuple #[.pointer none, .int .i64 er]) ∧ Below w.heap.size w w' := by
  have hB1 : Below w.heap.size w (w.alloc (.cells #[.int .i64 S, .int .i64 A, .int .i64 B, .int .i64 H, .int .i64 M] 27)) := (Below.refl _ _).alloc (Nat.le_refl _) _
  have he1 : (er == 0) = false := by simpa using he
  go_enter Try.func8, Try.ntmps8
  go_wp2_with (first | (go_at_call 24; (with_reducible refine (HP.out _ hB1).mono ?_); rintro e w2 ⟨rfl, hb2⟩; obtain ⟨hc2, hf2⟩ := bcell hb2; have hz2 := hb2.size; rw [alloc_size] at hz2))
  refine bodyPost_ret (v := .tuple #[.pointer none, .int .i64 er]) (by simp [results, Try.results8, go_sem]) rfl ?_
  exact ⟨rfl, hB1.trans (hb2.mono (by simp))⟩
set_option maxHeartbeats 2000000 in
theorem new_r1 (a : Option Addr) (len cap : Nat) (er S A B H M ah tl : Int) (he : er = 0) (h1 : ah < 0) (w : World) (HP : Hid (∀ w', Below w.heap.size w w' → Calls Try.prog 24 #[.slice a len cap] w' fun e w'' => e = .returned (.int .i64 er) ∧ Below w'.heap.size w' w'')) :
    Calls Try.prog 8 #[.slice a len cap, lim S A B H M, .int .i64 ah, .int .i64 tl] w fun e w' => e = .returned (.tuple #[.pointer none, .int .i64 4]) ∧ Below w.heap.size w w' := by
  have hB1 : Below w.heap.size w (w.alloc (.cells #[.int .i64 S, .int .i64 A, .int .i64 B, .int .i64 H, .int .i64 M] 27)) := (Below.refl _ _).alloc (Nat.le_refl _) _
  subst he
  go_enter Try.func8, Try.ntmps8
  go_wp2_with (first | (go_at_call 24; (with_reducible refine (HP.out _ hB1).mono ?_); rintro e w2 ⟨rfl, hb2⟩; obtain ⟨hc2, hf2⟩ := bcell hb2; have hz2 := hb2.size; rw [alloc_size] at hz2) | (go_at_call 25; (with_reducible refine (treach_any _ _).mono ?_); rintro e w' ⟨rfl, rfl⟩))
  refine bodyPost_ret (v := .tuple #[.pointer none, .int .i64 4]) (by simp [results, Try.results8, go_sem]) rfl ?_
  exact ⟨rfl, hB1.trans (hb2.mono (by simp))⟩
set_option maxHeartbeats 2000000 in
theorem new_r2 (a : Option Addr) (len cap : Nat) (er S A B H M ah tl : Int) (he : er = 0) (h1 : 0 ≤ ah) (h2 : 1048576 < ah) (w : World) (HP : Hid (∀ w', Below w.heap.size w w' → Calls Try.prog 24 #[.slice a len cap] w' fun e w'' => e = .returned (.int .i64 er) ∧ Below w'.heap.size w' w'')) :
    Calls Try.prog 8 #[.slice a len cap, lim S A B H M, .int .i64 ah, .int .i64 tl] w fun e w' => e = .returned (.tuple #[.pointer none, .int .i64 4]) ∧ Below w.heap.size w w' := by
  have hB1 : Below w.heap.size w (w.alloc (.cells #[.int .i64 S, .int .i64 A, .int .i64 B, .int .i64 H, .int .i64 M] 27)) := (Below.refl _ _).alloc (Nat.le_refl _) _
  subst he
  have ra : inB ah (-1048576) 1048576 = false := by unfold inB; simp; omega
  go_enter Try.func8, Try.ntmps8
  go_wp2_with (first | (go_at_call 24; (with_reducible refine (HP.out _ hB1).mono ?_); rintro e w2 ⟨rfl, hb2⟩; obtain ⟨hc2, hf2⟩ := bcell hb2; have hz2 := hb2.size; rw [alloc_size] at hz2) | (go_at_call 25; (with_reducible refine (treach_any _ _).mono ?_); rintro e w' ⟨rfl, rfl⟩))
  refine bodyPost_ret (v := .tuple #[.pointer none, .int .i64 4]) (by simp [results, Try.results8, go_sem]) rfl ?_
  exact ⟨rfl, hB1.trans (hb2.mono (by simp))⟩
set_option maxHeartbeats 2000000 in
theorem new_r3 (a : Option Addr) (len cap : Nat) (er S A B H M ah tl : Int) (he : er = 0) (h1 : 0 ≤ ah) (h2 : ah ≤ 1048576) (h3 : tl < 0) (w : World) (HP : Hid (∀ w', Below w.heap.size w w' → Calls Try.prog 24 #[.slice a len cap] w' fun e w'' => e = .returned (.int .i64 er) ∧ Below w'.heap.size w' w'')) :
    Calls Try.prog 8 #[.slice a len cap, lim S A B H M, .int .i64 ah, .int .i64 tl] w fun e w' => e = .returned (.tuple #[.pointer none, .int .i64 4]) ∧ Below w.heap.size w w' := by
  have hB1 : Below w.heap.size w (w.alloc (.cells #[.int .i64 S, .int .i64 A, .int .i64 B, .int .i64 H, .int .i64 M] 27)) := (Below.refl _ _).alloc (Nat.le_refl _) _
  subst he
  have ra : inB ah (-1048576) 1048576 = true := inB_mk (by omega) h2
  go_enter Try.func8, Try.ntmps8
  go_wp2_with (first | (go_at_call 24; (with_reducible refine (HP.out _ hB1).mono ?_); rintro e w2 ⟨rfl, hb2⟩; obtain ⟨hc2, hf2⟩ := bcell hb2; have hz2 := hb2.size; rw [alloc_size] at hz2) | (go_at_call 25; (with_reducible refine (treach_any _ _).mono ?_); rintro e w' ⟨rfl, rfl⟩))
  refine bodyPost_ret (v := .tuple #[.pointer none, .int .i64 4]) (by simp [results, Try.results8, go_sem]) rfl ?_
  exact ⟨rfl, hB1.trans (hb2.mono (by simp))⟩
set_option maxHeartbeats 2000000 in
theorem new_r4 (a : Option Addr) (len cap : Nat) (er S A B H M ah tl : Int) (he : er = 0) (h1 : 0 ≤ ah) (h2 : ah ≤ 1048576) (h3 : 0 ≤ tl) (h4 : 1048576 < tl) (w : World) (HP : Hid (∀ w', Below w.heap.size w w' → Calls Try.prog 24 #[.slice a len cap] w' fun e w'' => e = .returned (.int .i64 er) ∧ Below w'.heap.size w' w'')) :
    Calls Try.prog 8 #[.slice a len cap, lim S A B H M, .int .i64 ah, .int .i64 tl] w fun e w' => e = .returned (.tuple #[.pointer none, .int .i64 4]) ∧ Below w.heap.size w w' := by
  have hB1 : Below w.heap.size w (w.alloc (.cells #[.int .i64 S, .int .i64 A, .int .i64 B, .int .i64 H, .int .i64 M] 27)) := (Below.refl _ _).alloc (Nat.le_refl _) _
  subst he
  have ra : inB ah (-1048576) 1048576 = true := inB_mk (by omega) h2
  have rt : inB tl (-1048576) 1048576 = false := by unfold inB; simp; omega
  go_enter Try.func8, Try.ntmps8
  go_wp2_with (first | (go_at_call 24; (with_reducible refine (HP.out _ hB1).mono ?_); rintro e w2 ⟨rfl, hb2⟩; obtain ⟨hc2, hf2⟩ := bcell hb2; have hz2 := hb2.size; rw [alloc_size] at hz2) | (go_at_call 25; (with_reducible refine (treach_any _ _).mono ?_); rintro e w' ⟨rfl, rfl⟩))
  refine bodyPost_ret (v := .tuple #[.pointer none, .int .i64 4]) (by simp [results, Try.results8, go_sem]) rfl ?_
  exact ⟨rfl, hB1.trans (hb2.mono (by simp))⟩
set_option maxHeartbeats 2000000 in
theorem new_chk (a : Option Addr) (len cap : Nat) (er S A B H M ah tl : Int) (he : er = 0) (h1 : 0 ≤ ah) (h2 : ah ≤ 1048576) (h3 : 0 ≤ tl) (h4 : tl ≤ 1048576) (hc : chk S A B H M = false) (w : World) (HP : Hid (∀ w', Below w.heap.size w w' → Calls Try.prog 24 #[.slice a len cap] w' fun e w'' => e = .returned (.int .i64 er) ∧ Below w'.heap.size w' w'')) :
    Calls Try.prog 8 #[.slice a len cap, lim S A B H M, .int .i64 ah, .int .i64 tl] w fun e w' => e = .returned (.tuple #[.pointer none, .int .i64 4]) ∧ Below w.heap.size w w' := by
  have hB1 : Below w.heap.size w (w.alloc (.cells #[.int .i64 S, .int .i64 A, .int .i64 B, .int .i64 H, .int .i64 M] 27)) := (Below.refl _ _).alloc (Nat.le_refl _) _
  subst he
  have ra : inB ah (-1048576) 1048576 = true := inB_mk (by omega) h2
  have rt : inB tl (-1048576) 1048576 = true := inB_mk (by omega) h4
  have HC : Hid (∀ w, Calls Try.prog 10 #[lim S A B H M] w fun e w' => e = .returned (.int .i64 4) ∧ Below w.heap.size w w') := hid (fun w => by have := check_any S A B H M w; unfold chkE at this; rw [hc] at this; exact this)
  go_enter Try.func8, Try.ntmps8
  go_wp2_with (first | (go_at_call 24; (with_reducible refine (HP.out _ hB1).mono ?_); rintro e w2 ⟨rfl, hb2⟩; obtain ⟨hc2, hf2⟩ := bcell hb2; have hz2 := hb2.size; rw [alloc_size] at hz2) | (go_at_call 25; (with_reducible refine (treach_any _ _).mono ?_); rintro e w' ⟨rfl, rfl⟩) | (go_at_call 10; (with_reducible refine (HC.out _).mono ?_); rintro e w3 ⟨rfl, hb3⟩; have hz3 := hb3.size))
  refine bodyPost_ret (v := .tuple #[.pointer none, .int .i64 4]) (by simp [results, Try.results8, go_sem]) rfl ?_
  exact ⟨rfl, (hB1.trans (hb2.mono (by simp))).trans (hb3.mono (by omega))⟩
/-- the error of a new tracker -/
def rngOk (ah tl : Int) : Bool := decide (0 ≤ ah ∧ ah ≤ 1048576 ∧ 0 ≤ tl ∧ tl ≤ 1048576)
def rnewE (er ah tl : Int) : Int := if er = 0 then (if rngOk ah tl then 0 else 4) else er
def newE (er S A B H M ah tl : Int) : Int := if rnewE er ah tl = 0 then chkE S A B H M else rnewE er ah tl
theorem new_err (a : Option Addr) (len cap : Nat) (er S A B H M ah tl : Int) (hE : newE er S A B H M ah tl ≠ 0) (w : World) (HP : Hid (∀ w', Below w.heap.size w w' → Calls Try.prog 24 #[.slice a len cap] w' fun e w'' => e = .returned (.int .i64 er) ∧ Below w'.heap.size w' w'')) :
    Calls Try.prog 8 #[.slice a len cap, lim S A B H M, .int .i64 ah, .int .i64 tl] w fun e w' => e = .returned (.tuple #[.pointer none, .int .i64 (newE er S A B H M ah tl)]) ∧ Below w.heap.size w w' := by
  by_cases he : er = 0
  · cases hr : rngOk ah tl with
    | false =>
      have e4 : newE er S A B H M ah tl = 4 := by unfold newE rnewE; rw [if_pos he, hr]; rfl
      rw [e4]
      unfold rngOk at hr
      have hr' := of_decide_eq_false hr
      rcases Int.lt_or_le ah 0 with h1 | h1
      · exact new_r1 a len cap er S A B H M ah tl he h1 w HP
      · rcases Int.lt_or_le 1048576 ah with h2 | h2
        · exact new_r2 a len cap er S A B H M ah tl he h1 h2 w HP
        · rcases Int.lt_or_le tl 0 with h3 | h3
          · exact new_r3 a len cap er S A B H M ah tl he h1 h2 h3 w HP
          · exact new_r4 a len cap er S A B H M ah tl he h1 h2 h3 (by omega) w HP
    | true =>
      have hr' := of_decide_eq_true hr
      obtain ⟨h1, h2, h3, h4⟩ := hr'
      have e5 : newE er S A B H M ah tl = chkE S A B H M := by unfold newE rnewE; rw [if_pos he, hr]; rfl
      rw [e5] at hE
      cases hc : chk S A B H M with
      | true => unfold chkE at hE; rw [hc] at hE; exact absurd rfl hE
      | false =>
        have e6 : newE er S A B H M ah tl = 4 := by rw [e5]; unfold chkE; rw [hc]; rfl
        rw [e6]
        exact new_chk a len cap er S A B H M ah tl he h1 h2 h3 h4 hc w HP
  · have e7 : newE er S A B H M ah tl = er := by unfold newE rnewE; rw [if_neg he, if_neg he]
    rw [e7]
    exact new_path a len cap er S A B H M ah tl he w HP
end Go.Proofs.Ytdcclpdnnhaeoaa
