import Derived.Test.YtdcclpdnnhaeoaaWn
import Derived.Test.YtdcclpdnnhaeoaaFrame4
import Derived.Laws.MakeOwn
namespace Go.Proofs.Ytdcclpdnnhaeoaa.trackerRefuses
open Go.RowKit
set_option linter.unusedVariables false
set_option linter.unusedSimpArgs false
theorem many : ∃ O : Obj, ∀ w : World, (Instr.makeSlice 23 (.int .i64 4097) (.int .i64 4097)).run Try.prog w = .ok (.slice (some ⟨w.heap.size, 0, none⟩) 4097 4097) (w.alloc O) := by
  obtain ⟨i0, hi, hz0, hz1, hz2⟩ := info_parts info34
  exact ⟨_, fun w => run_makeSlice w 23 34 i0 _ Try.underlying23 hi hz0 .i64 .i64 4097 4097 (by omega) (by omega) (by rw [hz1]; decide) (by rw [hz2]; decide) (by omega)⟩
theorem new_many (a : Option Addr) (S A B H M : Int) (w : World) : Calls Try.prog 8 #[.slice a 4097 4097, lim S A B H M, .int .i64 0, .int .i64 0] w fun e w' => e = .returned (.tuple #[.pointer none, .int .i64 3]) ∧ Below w.heap.size w w' :=
  new_err a 4097 4097 3 S A B H M 0 0 (by unfold newE rnewE; simp) w (hid (fun w2 _ => pcheck_long a 4097 4097 (by omega) w2))
set_option maxHeartbeats 2000000 in
theorem long (n0 n1 n2 ah tl : Int) (a : Option Addr) (len cap : Nat) (X Y : Nat → Int) (S A B H M : Int) (hlen : 40 < len) (w : World) : Calls Try.prog 3 #[.agg #[.int .u8 n0, .int .u8 n1, .int .u8 n2, .int .i64 ah, .int .i64 tl, .slice a len cap], lim S A B H M] w fun e w' => e = .returned (.bool true) ∧ Below w.heap.size w w' := by
  have h1 : 40 < (len : Int) := by omega
  go_enter Try.func3, Try.ntmps3
  go_wp2_with (first | (go_at_call 7; refine (awake_any _).mono ?_; rintro e w5 ⟨rfl, hb5⟩))
  go_ret
  exact ⟨rfl, (((Below.refl _ _).alloc (Nat.le_refl _) _).alloc (by simp) _).trans (hb5.mono (by simp <;> omega))⟩
set_option maxHeartbeats 4000000 in
theorem refused (n0 n1 n2 ah tl : Int) (a : Option Addr) (len cap : Nat) (X Y : Nat → Int) (S A B H M : Int) (hlen : len ≤ 40) (w : World) (ha : Hid (Wants w a len X Y)) (hE : rnewE (pchk len X Y) ah tl ≠ 0) : Calls Try.prog 3 #[.agg #[.int .u8 n0, .int .u8 n1, .int .u8 n2, .int .i64 ah, .int .i64 tl, .slice a len cap], lim S A B H M] w fun e w' => e = .returned (.bool true) ∧ Below w.heap.size w w' := by
  have h1 : (len : Int) ≤ 40 := by omega
  have hB1 : Below w.heap.size w ((w.alloc (.cells #[.int .u8 n0, .int .u8 n1, .int .u8 n2, .int .i64 ah, .int .i64 tl, .slice a len cap] 25)).alloc (.cells #[.int .i64 S, .int .i64 A, .int .i64 B, .int .i64 H, .int .i64 M] 27)) := (((Below.refl _ _).alloc (Nat.le_refl _) _).alloc (by simp) _)
  have hNE : newE (pchk len X Y) S A B H M ah tl = rnewE (pchk len X Y) ah tl := by unfold newE; rw [if_neg hE]
  have HN := hid (fun (w' : World) (h : Below w.heap.size w w') => new_err a len cap (pchk len X Y) S A B H M ah tl (by rw [hNE]; exact hE) w' (hid (fun w2 h2 => pcheck_any a len cap X Y w2 (hid (wants_below ha.out (h.trans (h2.mono h.size)))))))
  rw [hNE] at HN
  have HR := hid (fun (w' : World) (h : Below w.heap.size w w') => rnew_err a len cap (pchk len X Y) S A B H M ah tl hE w' (hid (fun w2 h2 => rpath_any a len cap X Y w2 (hid (wants_below ha.out (h.trans (h2.mono h.size)))))))
  clear hNE
  generalize rnewE (pchk len X Y) ah tl = E at *
  have hE' : (E == 0) = false := by simpa using hE
  obtain ⟨BIG, hmk⟩ := many
  have HM := hid (fun (g : Nat) (w : World) => new_many (some ⟨g, 0, none⟩) S A B H M w)
  go_enter Try.func3, Try.ntmps3
  go_upto_region 7 with (first
    | (go_at_call 8; (with_reducible refine (HN.out _ hB1).mono ?_); rintro e w2 ⟨rfl, hb2⟩; obtain ⟨hc2, hf2⟩ := bcell hb2; have hz2 := hb2.size; rw [alloc_size, alloc_size] at hz2; have hz2' : w.heap.size + 1 < w2.heap.size := (by omega); have hz2'' : w.heap.size < w2.heap.size := (by omega); have hB2 : Below w.heap.size w w2 := hB1.trans (hb2.mono (by simp <;> omega)))
    | (go_at_call 9; (with_reducible refine (HR.out _ hB2).mono ?_); rintro e w3 ⟨rfl, hb3⟩; have hB3 : Below w.heap.size w w3 := hB2.trans (hb3.mono (by omega)); have hz3 : w.heap.size + 1 < w3.heap.size := (by have := hb3.size; omega); have k3 : ∀ j, w3.cell? ⟨w.heap.size + 1, j, none⟩ = ((w.alloc (.cells #[.int .u8 n0, .int .u8 n1, .int .u8 n2, .int .i64 ah, .int .i64 tl, .slice a len cap] 25)).alloc (.cells #[.int .i64 S, .int .i64 A, .int .i64 B, .int .i64 H, .int .i64 M] 27)).cell? ⟨w.heap.size + 1, j, none⟩ := (fun j => (hb3.cell (by dsimp only; omega)).trans (hb2.cell (by simp)))))
  have k4 : ∀ (O1 : Obj) (j : Nat), ((w3.alloc O1).alloc BIG).cell? ⟨w.heap.size + 1, j, none⟩ = ((w.alloc (.cells #[.int .u8 n0, .int .u8 n1, .int .u8 n2, .int .i64 ah, .int .i64 tl, .slice a len cap] 25)).alloc (.cells #[.int .i64 S, .int .i64 A, .int .i64 B, .int .i64 H, .int .i64 M] 27)).cell? ⟨w.heap.size + 1, j, none⟩ := fun O1 j => (World.cell?_alloc_lt _ _ _ (by simp; omega)).trans ((World.cell?_alloc_lt _ _ _ hz3).trans (k3 j))
  have k40 : ∀ O1, ((w3.alloc O1).alloc BIG).cell? ⟨w.heap.size + 1, 0, none⟩ = some (.int .i64 S) := fun O1 => (k4 O1 0).trans (by simp [go_sem])
  have k41 : ∀ O1, ((w3.alloc O1).alloc BIG).cell? ⟨w.heap.size + 1, 1, none⟩ = some (.int .i64 A) := fun O1 => (k4 O1 1).trans (by simp [go_sem])
  have k42 : ∀ O1, ((w3.alloc O1).alloc BIG).cell? ⟨w.heap.size + 1, 2, none⟩ = some (.int .i64 B) := fun O1 => (k4 O1 2).trans (by simp [go_sem])
  have k43 : ∀ O1, ((w3.alloc O1).alloc BIG).cell? ⟨w.heap.size + 1, 3, none⟩ = some (.int .i64 H) := fun O1 => (k4 O1 3).trans (by simp [go_sem])
  have k44 : ∀ O1, ((w3.alloc O1).alloc BIG).cell? ⟨w.heap.size + 1, 4, none⟩ = some (.int .i64 M) := fun O1 => (k4 O1 4).trans (by simp [go_sem])
  clear HN HR k4 k3
  go_wp2_with (first
    | (go_at_call 8; (with_reducible refine (HM.out _ _).mono ?_); rintro e w6 ⟨rfl, hb6⟩)
    | (go_at_call 7; refine (awake_any _).mono ?_; rintro e w7 ⟨rfl, hb7⟩))
  have hs3 := hB3.size
  have hs6 := hb6.size
  go_ret
  exact ⟨rfl, (((((hB3.alloc hs3 _).alloc (by simp <;> omega) _)).trans (hb6.mono (by simp <;> omega))).trans (hb7.mono (by simp at hs6; omega)))⟩
set_option maxHeartbeats 4000000 in
theorem good (n0 n1 n2 ah tl : Int) (a : Option Addr) (len cap : Nat) (X Y : Nat → Int) (S A B H M : Int) (hlen : len ≤ 40) (w : World) (ha : Hid (Wants w a len X Y)) (hp : pchk len X Y = 0) (a1 : 0 ≤ ah) (a2 : ah ≤ 1048576) (t1 : 0 ≤ tl) (t2 : tl ≤ 1048576) (hc : chk S A B H M = true) : Calls Try.prog 3 #[.agg #[.int .u8 n0, .int .u8 n1, .int .u8 n2, .int .i64 ah, .int .i64 tl, .slice a len cap], lim S A B H M] w fun e w' => e = .returned (.bool true) ∧ Below w.heap.size w w' := by
  have h1 : (len : Int) ≤ 40 := by omega
  have hB1 : Below w.heap.size w ((w.alloc (.cells #[.int .u8 n0, .int .u8 n1, .int .u8 n2, .int .i64 ah, .int .i64 tl, .slice a len cap] 25)).alloc (.cells #[.int .i64 S, .int .i64 A, .int .i64 B, .int .i64 H, .int .i64 M] 27)) := (((Below.refl _ _).alloc (Nat.le_refl _) _).alloc (by simp) _)
  have HN := hid (fun (w' : World) (h : Below w.heap.size w w') => new_ok a len cap X Y S A B H M ah tl hp a1 a2 t1 t2 hc w' (hid (wants_below ha.out h)))
  have HR := hid (fun (w' : World) (h : Below w.heap.size w w') => rnew_ok a len cap X Y S A B H M ah tl hp a1 a2 t1 t2 w' (hid (wants_below ha.out h)))
  have HC : Hid (∀ w, Calls Try.prog 10 #[lim S A B H M] w fun e w' => e = .returned (.int .i64 0) ∧ Below w.heap.size w w') := hid (fun w => by have := check_any S A B H M w; unfold chkE at this; rw [hc] at this; exact this)
  clear hp hc a1 a2 t1 t2
  obtain ⟨BIG, hmk⟩ := many
  have HM := hid (fun (g : Nat) (w : World) => new_many (some ⟨g, 0, none⟩) S A B H M w)
  go_enter Try.func3, Try.ntmps3
  go_upto_region 6 with (first
    | (go_at_call 8; (with_reducible refine (HN.out _ hB1).mono ?_); rintro e w2 ⟨g, g2, cap', rfl, hg, ht, hg2, hgg, hx, hb2⟩; obtain ⟨hc2, hf2⟩ := bcell hb2; have hz2 := hb2.size; rw [alloc_size, alloc_size] at hz2; have hz2' : w.heap.size + 1 < w2.heap.size := (by omega); have hz2'' : w.heap.size < w2.heap.size := (by omega); have hB2 : Below w.heap.size w w2 := hB1.trans (hb2.mono (by simp <;> omega)))
    | (go_at_call 9; (with_reducible refine (HR.out _ hB2).mono ?_); rintro e w3 ⟨r2, rcap, rfl, rg2, rgl, rx, hb3⟩; have hB3 : Below w.heap.size w w3 := hB2.trans (hb3.mono (by omega)); have hz3 : w.heap.size + 1 < w3.heap.size := (by have := hb3.size; omega); have k3 : ∀ j, w3.cell? ⟨w.heap.size + 1, j, none⟩ = ((w.alloc (.cells #[.int .u8 n0, .int .u8 n1, .int .u8 n2, .int .i64 ah, .int .i64 tl, .slice a len cap] 25)).alloc (.cells #[.int .i64 S, .int .i64 A, .int .i64 B, .int .i64 H, .int .i64 M] 27)).cell? ⟨w.heap.size + 1, j, none⟩ := (fun j => (hb3.cell (by dsimp only; omega)).trans (hb2.cell (by simp)))))
  have m4 : ∀ (O1 : Obj) (j : Nat), (w3.alloc O1).cell? ⟨w.heap.size + 1, j, none⟩ = ((w.alloc (.cells #[.int .u8 n0, .int .u8 n1, .int .u8 n2, .int .i64 ah, .int .i64 tl, .slice a len cap] 25)).alloc (.cells #[.int .i64 S, .int .i64 A, .int .i64 B, .int .i64 H, .int .i64 M] 27)).cell? ⟨w.heap.size + 1, j, none⟩ := fun O1 j => (World.cell?_alloc_lt _ _ _ hz3).trans (k3 j)
  have m40 : ∀ O1, (w3.alloc O1).cell? ⟨w.heap.size + 1, 0, none⟩ = some (.int .i64 S) := fun O1 => (m4 O1 0).trans (by simp [go_sem])
  have m41 : ∀ O1, (w3.alloc O1).cell? ⟨w.heap.size + 1, 1, none⟩ = some (.int .i64 A) := fun O1 => (m4 O1 1).trans (by simp [go_sem])
  have m42 : ∀ O1, (w3.alloc O1).cell? ⟨w.heap.size + 1, 2, none⟩ = some (.int .i64 B) := fun O1 => (m4 O1 2).trans (by simp [go_sem])
  have m43 : ∀ O1, (w3.alloc O1).cell? ⟨w.heap.size + 1, 3, none⟩ = some (.int .i64 H) := fun O1 => (m4 O1 3).trans (by simp [go_sem])
  have m44 : ∀ O1, (w3.alloc O1).cell? ⟨w.heap.size + 1, 4, none⟩ = some (.int .i64 M) := fun O1 => (m4 O1 4).trans (by simp [go_sem])
  clear hc2 hf2 HN HR
  have hs3 := hB3.size
  go_upto_region 7 with (go_at_call 10; (with_reducible refine (HC.out _).mono ?_); rintro e w4 ⟨rfl, hb4⟩)
  have hz4 := hb4.size
  rw [alloc_size] at hz4
  have hB4 : Below w.heap.size w w4 := (hB3.alloc hs3 _).trans (hb4.mono (by rw [alloc_size]; omega))
  have k4 : ∀ j, (w4.alloc BIG).cell? ⟨w.heap.size + 1, j, none⟩ = ((w.alloc (.cells #[.int .u8 n0, .int .u8 n1, .int .u8 n2, .int .i64 ah, .int .i64 tl, .slice a len cap] 25)).alloc (.cells #[.int .i64 S, .int .i64 A, .int .i64 B, .int .i64 H, .int .i64 M] 27)).cell? ⟨w.heap.size + 1, j, none⟩ := fun j => (World.cell?_alloc_lt _ _ _ (by dsimp only; omega)).trans ((hb4.cell (p := ⟨w.heap.size + 1, j, none⟩) (by rw [alloc_size]; dsimp only; omega)).trans (m4 _ j))
  have k40 : (w4.alloc BIG).cell? ⟨w.heap.size + 1, 0, none⟩ = some (.int .i64 S) := (k4 0).trans (by simp [go_sem])
  have k41 : (w4.alloc BIG).cell? ⟨w.heap.size + 1, 1, none⟩ = some (.int .i64 A) := (k4 1).trans (by simp [go_sem])
  have k42 : (w4.alloc BIG).cell? ⟨w.heap.size + 1, 2, none⟩ = some (.int .i64 B) := (k4 2).trans (by simp [go_sem])
  have k43 : (w4.alloc BIG).cell? ⟨w.heap.size + 1, 3, none⟩ = some (.int .i64 H) := (k4 3).trans (by simp [go_sem])
  have k44 : (w4.alloc BIG).cell? ⟨w.heap.size + 1, 4, none⟩ = some (.int .i64 M) := (k4 4).trans (by simp [go_sem])
  clear k4 m4 m40 m41 m42 m43 m44 k3
  have hs4 := hB4.size
  go_wp2_with (first
    | (go_at_call 8; (with_reducible refine (HM.out _ _).mono ?_); rintro e w6 ⟨rfl, hb6⟩)
    | (go_at_call 7; refine (awake_any _).mono ?_; rintro e w7 ⟨rfl, hb7⟩))
  have hs6 := hb6.size
  go_ret
  exact ⟨rfl, ((hB4.alloc hs4 _).trans (hb6.mono (by rw [alloc_size]; omega))).trans (hb7.mono (by simp at hs6; omega))⟩
set_option maxHeartbeats 4000000 in
theorem bad (n0 n1 n2 ah tl : Int) (a : Option Addr) (len cap : Nat) (X Y : Nat → Int) (S A B H M : Int) (hlen : len ≤ 40) (w : World) (ha : Hid (Wants w a len X Y)) (hp : pchk len X Y = 0) (a1 : 0 ≤ ah) (a2 : ah ≤ 1048576) (t1 : 0 ≤ tl) (t2 : tl ≤ 1048576) (hc : chk S A B H M = false) : Calls Try.prog 3 #[.agg #[.int .u8 n0, .int .u8 n1, .int .u8 n2, .int .i64 ah, .int .i64 tl, .slice a len cap], lim S A B H M] w fun e w' => e = .returned (.bool true) ∧ Below w.heap.size w w' := by
  have h1 : (len : Int) ≤ 40 := by omega
  have hB1 : Below w.heap.size w ((w.alloc (.cells #[.int .u8 n0, .int .u8 n1, .int .u8 n2, .int .i64 ah, .int .i64 tl, .slice a len cap] 25)).alloc (.cells #[.int .i64 S, .int .i64 A, .int .i64 B, .int .i64 H, .int .i64 M] 27)) := (((Below.refl _ _).alloc (Nat.le_refl _) _).alloc (by simp) _)
  have hNE : newE (pchk len X Y) S A B H M ah tl = 4 := by
    unfold newE rnewE chkE
    rw [hp, hc]
    have : rngOk ah tl = true := decide_eq_true ⟨a1, a2, t1, t2⟩
    rw [this]
    rfl
  have HN := hid (fun (w' : World) (h : Below w.heap.size w w') => new_err a len cap (pchk len X Y) S A B H M ah tl (by rw [hNE]; decide) w' (hid (fun w2 h2 => pcheck_any a len cap X Y w2 (hid (wants_below ha.out (h.trans (h2.mono h.size)))))))
  rw [hNE] at HN
  have HR := hid (fun (w' : World) (h : Below w.heap.size w w') => rnew_ok a len cap X Y S A B H M ah tl hp a1 a2 t1 t2 w' (hid (wants_below ha.out h)))
  have HC : Hid (∀ w, Calls Try.prog 10 #[lim S A B H M] w fun e w' => e = .returned (.int .i64 4) ∧ Below w.heap.size w w') := hid (fun w => by have := check_any S A B H M w; unfold chkE at this; rw [hc] at this; exact this)
  clear hp hc a1 a2 t1 t2
  obtain ⟨BIG, hmk⟩ := many
  have HM := hid (fun (g : Nat) (w : World) => new_many (some ⟨g, 0, none⟩) S A B H M w)
  go_enter Try.func3, Try.ntmps3
  go_upto_region 6 with (first
    | (go_at_call 8; (with_reducible refine (HN.out _ hB1).mono ?_); rintro e w2 ⟨rfl, hb2⟩; obtain ⟨hc2, hf2⟩ := bcell hb2; have hz2 := hb2.size; rw [alloc_size, alloc_size] at hz2; have hz2' : w.heap.size + 1 < w2.heap.size := (by omega); have hz2'' : w.heap.size < w2.heap.size := (by omega); have hB2 : Below w.heap.size w w2 := hB1.trans (hb2.mono (by simp <;> omega)))
    | (go_at_call 9; (with_reducible refine (HR.out _ hB2).mono ?_); rintro e w3 ⟨r2, rcap, rfl, rg2, rgl, rx, hb3⟩; have hB3 : Below w.heap.size w w3 := hB2.trans (hb3.mono (by omega)); have hz3 : w.heap.size + 1 < w3.heap.size := (by have := hb3.size; omega); have k3 : ∀ j, w3.cell? ⟨w.heap.size + 1, j, none⟩ = ((w.alloc (.cells #[.int .u8 n0, .int .u8 n1, .int .u8 n2, .int .i64 ah, .int .i64 tl, .slice a len cap] 25)).alloc (.cells #[.int .i64 S, .int .i64 A, .int .i64 B, .int .i64 H, .int .i64 M] 27)).cell? ⟨w.heap.size + 1, j, none⟩ := (fun j => (hb3.cell (by dsimp only; omega)).trans (hb2.cell (by simp)))))
  have m4 : ∀ (O1 : Obj) (j : Nat), (w3.alloc O1).cell? ⟨w.heap.size + 1, j, none⟩ = ((w.alloc (.cells #[.int .u8 n0, .int .u8 n1, .int .u8 n2, .int .i64 ah, .int .i64 tl, .slice a len cap] 25)).alloc (.cells #[.int .i64 S, .int .i64 A, .int .i64 B, .int .i64 H, .int .i64 M] 27)).cell? ⟨w.heap.size + 1, j, none⟩ := fun O1 j => (World.cell?_alloc_lt _ _ _ hz3).trans (k3 j)
  have m40 : ∀ O1, (w3.alloc O1).cell? ⟨w.heap.size + 1, 0, none⟩ = some (.int .i64 S) := fun O1 => (m4 O1 0).trans (by simp [go_sem])
  have m41 : ∀ O1, (w3.alloc O1).cell? ⟨w.heap.size + 1, 1, none⟩ = some (.int .i64 A) := fun O1 => (m4 O1 1).trans (by simp [go_sem])
  have m42 : ∀ O1, (w3.alloc O1).cell? ⟨w.heap.size + 1, 2, none⟩ = some (.int .i64 B) := fun O1 => (m4 O1 2).trans (by simp [go_sem])
  have m43 : ∀ O1, (w3.alloc O1).cell? ⟨w.heap.size + 1, 3, none⟩ = some (.int .i64 H) := fun O1 => (m4 O1 3).trans (by simp [go_sem])
  have m44 : ∀ O1, (w3.alloc O1).cell? ⟨w.heap.size + 1, 4, none⟩ = some (.int .i64 M) := fun O1 => (m4 O1 4).trans (by simp [go_sem])
  clear hc2 hf2 HN HR
  have hs3 := hB3.size
  go_upto_region 7 with (go_at_call 10; (with_reducible refine (HC.out _).mono ?_); rintro e w4 ⟨rfl, hb4⟩)
  have hz4 := hb4.size
  rw [alloc_size] at hz4
  have hB4 : Below w.heap.size w w4 := (hB3.alloc hs3 _).trans (hb4.mono (by rw [alloc_size]; omega))
  have k4 : ∀ j, (w4.alloc BIG).cell? ⟨w.heap.size + 1, j, none⟩ = ((w.alloc (.cells #[.int .u8 n0, .int .u8 n1, .int .u8 n2, .int .i64 ah, .int .i64 tl, .slice a len cap] 25)).alloc (.cells #[.int .i64 S, .int .i64 A, .int .i64 B, .int .i64 H, .int .i64 M] 27)).cell? ⟨w.heap.size + 1, j, none⟩ := fun j => (World.cell?_alloc_lt _ _ _ (by dsimp only; omega)).trans ((hb4.cell (p := ⟨w.heap.size + 1, j, none⟩) (by rw [alloc_size]; dsimp only; omega)).trans (m4 _ j))
  have k40 : (w4.alloc BIG).cell? ⟨w.heap.size + 1, 0, none⟩ = some (.int .i64 S) := (k4 0).trans (by simp [go_sem])
  have k41 : (w4.alloc BIG).cell? ⟨w.heap.size + 1, 1, none⟩ = some (.int .i64 A) := (k4 1).trans (by simp [go_sem])
  have k42 : (w4.alloc BIG).cell? ⟨w.heap.size + 1, 2, none⟩ = some (.int .i64 B) := (k4 2).trans (by simp [go_sem])
  have k43 : (w4.alloc BIG).cell? ⟨w.heap.size + 1, 3, none⟩ = some (.int .i64 H) := (k4 3).trans (by simp [go_sem])
  have k44 : (w4.alloc BIG).cell? ⟨w.heap.size + 1, 4, none⟩ = some (.int .i64 M) := (k4 4).trans (by simp [go_sem])
  clear k4 m4 m40 m41 m42 m43 m44 k3
  have hs4 := hB4.size
  go_wp2_with (first
    | (go_at_call 8; (with_reducible refine (HM.out _ _).mono ?_); rintro e w6 ⟨rfl, hb6⟩)
    | (go_at_call 7; refine (awake_any _).mono ?_; rintro e w7 ⟨rfl, hb7⟩))
  have hs6 := hb6.size
  go_ret
  exact ⟨rfl, ((hB4.alloc hs4 _).trans (hb6.mono (by rw [alloc_size]; omega))).trans (hb7.mono (by simp at hs6; omega))⟩
end Go.Proofs.Ytdcclpdnnhaeoaa.trackerRefuses
