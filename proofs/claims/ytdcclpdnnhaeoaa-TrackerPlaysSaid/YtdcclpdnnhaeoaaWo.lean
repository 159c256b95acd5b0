/- Walks: a new tracker; its slice's capacity. -/
import Derived.Test.YtdcclpdnnhaeoaaWt
import Derived.Deep.RegionHeld3
namespace Go.Proofs.Ytdcclpdnnhaeoaa
open Go.RowKit
set_option linter.unusedVariables false
set_option maxHeartbeats 4000000 in
theorem new_okc (a : Option Addr) (len cap : Nat) (X Y : Nat → Int) (S A B H M ah tl : Int) (hp : pchk len X Y = 0) (a1 : 0 ≤ ah) (a2 : ah ≤ 1048576) (t1 : 0 ≤ tl) (t2 : tl ≤ 1048576) (hc : chk S A B H M = true) (w : World) (ha : Hid (Wants w a len X Y)) :
    Calls Try.prog 8 #[.slice a len cap, lim S A B H M, .int .i64 ah, .int .i64 tl] w fun e w' => ∃ g g2 cap', e = .returned (.tuple #[.pointer (some ⟨g, 0, none⟩), .int .i64 0]) ∧ w.heap.size ≤ g ∧ Trk w' g (.slice (some ⟨g2, 0, none⟩) len cap') S A B H M ah tl 0 0 0 false ∧ w.heap.size ≤ g2 ∧ g2 < g ∧ Hid (∀ i, i < len → w'.cell? ⟨g2, i * 2, none⟩ = some (.int .i64 (X i)) ∧ w'.cell? ⟨g2, i * 2 + 1, none⟩ = some (.int .i64 (Y i))) ∧ Below w.heap.size w w' ∧ len ≤ cap' := by
  have hpp := pchk_zero hp
  obtain ⟨p1, p2, p3⟩ := hpp
  obtain ⟨b, off, rfl, hbw, hcell⟩ := ha.out p1
  have HCELL := hid hcell
  clear hcell
  obtain ⟨i0, hi, hz0, hz1, hz2⟩ := info_parts info34
  have HP : Hid (∀ w, Hid (Wants w (some ⟨b, off, none⟩) len X Y) → Calls Try.prog 24 #[.slice (some ⟨b, off, none⟩) len cap] w fun e w' => e = .returned (.int .i64 0) ∧ Below w.heap.size w w') := hid (fun w h => by have := pcheck_any (some ⟨b, off, none⟩) len cap X Y w h; rw [hp] at this; exact this)
  have HC : Hid (∀ w, Calls Try.prog 10 #[lim S A B H M] w fun e w' => e = .returned (.int .i64 0) ∧ Below w.heap.size w w') := hid (fun w => by have := check_any S A B H M w; unfold chkE at this; rw [hc] at this; exact this)
  have ra : inB ah (-1048576) 1048576 = true := inB_mk (by omega) a2
  have rt : inB tl (-1048576) 1048576 = true := inB_mk (by omega) t2
  clear hp hc p3
  have hWa : Hid (Wants (w.alloc (.cells #[.int .i64 S, .int .i64 A, .int .i64 B, .int .i64 H, .int .i64 M] 27)) (some ⟨b, off, none⟩) len X Y) := hid (wants_below ha.out ((Below.refl _ _).alloc (Nat.le_refl _) _))
  have a1' : decide (ah < 0) = false := by simp; omega
  have t1' : decide (tl < 0) = false := by simp; omega
  go_enter Try.func8, Try.ntmps8
  go_upto_region 9 with (first
    | (go_at_call 24; (with_reducible refine (HP.out _ hWa).mono ?_); rintro e w2 ⟨rfl, hb2⟩; obtain ⟨hc2, hf2⟩ := bcell hb2; have hz2' := hb2.size; rw [alloc_size] at hz2')
    | (go_at_call 25; (with_reducible refine (treach_any _ _).mono ?_); rintro e w' ⟨rfl, rfl⟩)
    | (go_at_call 10; (with_reducible refine (HC.out _).mono ?_); rintro e w3 ⟨rfl, hb3⟩; obtain ⟨hc3, hf3⟩ := bcell hb3; have hz3 := hb3.size))
  have n0 : w.heap.size < w3.heap.size := by omega
  have k0 : ∀ j, w3.cell? ⟨w.heap.size, j, none⟩ = (w.alloc (.cells #[.int .i64 S, .int .i64 A, .int .i64 B, .int .i64 H, .int .i64 M] 27)).cell? ⟨w.heap.size, j, none⟩ := fun j => (hc3 _ _ (by omega)).trans (hc2 _ _ (by simp))
  have k00 : w3.cell? ⟨w.heap.size, 0, none⟩ = some (.int .i64 S) := (k0 0).trans (by simp [go_sem])
  have k01 : w3.cell? ⟨w.heap.size, 1, none⟩ = some (.int .i64 A) := (k0 1).trans (by simp [go_sem])
  have k02 : w3.cell? ⟨w.heap.size, 2, none⟩ = some (.int .i64 B) := (k0 2).trans (by simp [go_sem])
  have k03 : w3.cell? ⟨w.heap.size, 3, none⟩ = some (.int .i64 H) := (k0 3).trans (by simp [go_sem])
  have k04 : w3.cell? ⟨w.heap.size, 4, none⟩ = some (.int .i64 M) := (k0 4).trans (by simp [go_sem])
  have KEEP : ∀ w', Below w3.heap.size w3 w' → (w'.cell? ⟨w.heap.size, 0, none⟩ = some (.int .i64 S) ∧ w'.cell? ⟨w.heap.size, 1, none⟩ = some (.int .i64 A) ∧ w'.cell? ⟨w.heap.size, 2, none⟩ = some (.int .i64 B) ∧ w'.cell? ⟨w.heap.size, 3, none⟩ = some (.int .i64 H) ∧ w'.cell? ⟨w.heap.size, 4, none⟩ = some (.int .i64 M)) := fun w' hb' => ⟨(hb'.cell n0).trans k00, (hb'.cell n0).trans k01, (hb'.cell n0).trans k02, (hb'.cell n0).trans k03, (hb'.cell n0).trans k04⟩
  have HK := hid KEEP
  have HB : Below w.heap.size w w3 := ((Below.refl _ _).alloc (Nat.le_refl _) _).trans ((hb2.mono (by simp)).trans (hb3.mono (by omega)))
  have HN : Hid (∀ (j : Nat) (u : Value), (flatP X Y len)[j]? = some u → (w3.alloc (.cells #[] 34)).cell? ((⟨b, off, none⟩ : Addr).add j) = some u) := hid (news_of (fun i hi => ⟨((HB.alloc HB.size _).cell hbw).trans (HCELL.out i hi).1, ((HB.alloc HB.size _).cell hbw).trans (HCELL.out i hi).2⟩))
  clear KEEP k0 k00 k01 k02 k03 k04 hc2 hf2 hc3 hf3 hb2 hb3 HP HC hWa
  have HL : Hid (([] : List Value) ++ flatP X Y len = flatP X Y len) := hid (List.nil_append _)
  have HLN := hid (flatP_len X Y len)
  have HFO := hid (flatP_one X Y len)
  have HFG := hid (flatP_get X Y len)
  generalize flatP X Y len = news at *
  go_region_held3 (fun w' => w'.cell? ⟨w.heap.size, 0, none⟩ = some (.int .i64 S) ∧ w'.cell? ⟨w.heap.size, 1, none⟩ = some (.int .i64 A) ∧ w'.cell? ⟨w.heap.size, 2, none⟩ = some (.int .i64 B) ∧ w'.cell? ⟨w.heap.size, 3, none⟩ = some (.int .i64 H) ∧ w'.cell? ⟨w.heap.size, 4, none⟩ = some (.int .i64 M)) (exact HK.out _ (by (repeat' (first | assumption | exact Below.refl _ _ | refine Below.drew ?_ | refine Below.alloc ?_ ?_ _ | (simp; done) | (simp; omega))))) (first
    | (refine step_append_lies _ rfl _ _ 23 rfl w3.heap.size 34 i0 (.agg #[.int .i64 0, .int .i64 0]) 2 16 Try.underlying23 hi hz0 hz1 hz2 agg2_size (by decide) (.slice (some ⟨w3.heap.size, 0, none⟩) 0 0) 0 [] rfl (own_empty w3) ⟨b, off, none⟩ len cap news rfl HLN.out (fun j u hj => (HN.out j u hj)) HFO.out p1 (by unfold maxLen; omega) (by omega) (by simp) (w3.heap.size + 1) (by simp) ?_
       intro g cap' w4 hown hgrow hgg hlt; have HG := hid hgrow; have HBZ : Below w3.heap.size w3 w4 := Below.grown (by (repeat' (first | assumption | exact Below.refl _ _ | refine Below.drew ?_ | refine Below.alloc ?_ ?_ _ | (simp; done) | (simp; omega)))) HG.out (by simp) (fun k hk => by have hk' : some w3.heap.size = some k := hk; injection hk' with hk'; omega); have HZS := HBZ.size))
  go_wp2_with fail
  refine bodyPost_ret (v := .tuple #[.pointer (some ⟨w4.heap.size, 0, none⟩), .int .i64 0]) (by simp [results, Try.results8, go_sem]) rfl ?_
  have hgs : w3.heap.size ≤ g := by
    rcases hgg with h | h
    · have h' : some w3.heap.size = some g := h; injection h' with h'; omega
    · omega
  rw [HL.out, Nat.zero_add] at hown
  refine ⟨w4.heap.size, g, cap', rfl, by omega, ⟨by simp, by go_simp, by go_simp, by go_simp, by go_simp, by go_simp, by go_simp, by go_simp, by go_simp, by go_simp, by go_simp, by go_simp, by go_simp, by go_simp, by go_simp, by go_simp, by go_simp, by go_simp⟩, by omega, hlt, hid (fun i hi => ?_), (HB.trans (HBZ.mono (by omega))).alloc (by omega) _, own_cap hown⟩
  have k := HFG.out i hi
  have c1 := hown.cellAt (i * 2) (by omega)
  have c2 := hown.cellAt (i * 2 + 1) (by omega)
  exact ⟨(World.cell?_alloc_lt _ _ _ hlt).trans (c1.trans k.1), (World.cell?_alloc_lt _ _ _ hlt).trans (c2.trans k.2)⟩
set_option linter.unusedSimpArgs false
set_option maxHeartbeats 4000000 in
theorem rnew_okc (a : Option Addr) (len cap : Nat) (X Y : Nat → Int) (S A B H M ah tl : Int) (hp : pchk len X Y = 0) (a1 : 0 ≤ ah) (a2 : ah ≤ 1048576) (t1 : 0 ≤ tl) (t2 : tl ≤ 1048576) (w : World) (ha : Hid (Wants w a len X Y)) :
    Calls Try.prog 9 #[.slice a len cap, lim S A B H M, .int .i64 ah, .int .i64 tl] w fun e w' => ∃ g2 cap', e = .returned (.tuple #[ref12 (.slice (some ⟨g2, 0, none⟩) len cap') S A B H M ah tl, .int .i64 0]) ∧ w.heap.size ≤ g2 ∧ g2 < w'.heap.size ∧ Hid (∀ i, i < len → w'.cell? ⟨g2, i * 2, none⟩ = some (.int .i64 (X i)) ∧ w'.cell? ⟨g2, i * 2 + 1, none⟩ = some (.int .i64 (Y i))) ∧ Below w.heap.size w w' ∧ len ≤ cap' := by
  have hpp := pchk_zero hp
  obtain ⟨p1, p2, p3⟩ := hpp
  obtain ⟨b, off, rfl, hbw, hcell⟩ := ha.out p1
  have HCELL := hid hcell
  clear hcell
  obtain ⟨i0, hi, hz0, hz1, hz2⟩ := info_parts info34
  have HP : Hid (∀ w, Hid (Wants w (some ⟨b, off, none⟩) len X Y) → Calls Try.prog 26 #[.slice (some ⟨b, off, none⟩) len cap] w fun e w' => e = .returned (.int .i64 0) ∧ Below w.heap.size w w') := hid (fun w h => by have := rpath_any (some ⟨b, off, none⟩) len cap X Y w h; rw [hp] at this; exact this)
  clear hp p3
  have hB1 : Below w.heap.size w ((w.alloc (.cells #[.int .i64 S, .int .i64 A, .int .i64 B, .int .i64 H, .int .i64 M] 27)).alloc (.cells #[.slice none 0 0, .int .i64 0, .int .i64 0, .int .i64 0, .int .i64 0, .int .i64 0, .int .i64 0, .int .i64 0, .int .i64 0, .int .i64 0, .int .i64 0, .bool false] 36)) := ((Below.refl _ _).alloc (Nat.le_refl _) _).alloc (by simp) _
  have hWa : Hid (Wants ((w.alloc (.cells #[.int .i64 S, .int .i64 A, .int .i64 B, .int .i64 H, .int .i64 M] 27)).alloc (.cells #[.slice none 0 0, .int .i64 0, .int .i64 0, .int .i64 0, .int .i64 0, .int .i64 0, .int .i64 0, .int .i64 0, .int .i64 0, .int .i64 0, .int .i64 0, .bool false] 36)) (some ⟨b, off, none⟩) len X Y) := hid (wants_below ha.out hB1)
  have a1' : decide (ah < 0) = false := by simp; omega
  have t1' : decide (tl < 0) = false := by simp; omega
  go_enter Try.func9, Try.ntmps9
  go_upto_region 6 with (first
    | (go_at_call 26; (with_reducible refine (HP.out _ hWa).mono ?_); rintro e w3 ⟨rfl, hb3⟩; obtain ⟨hc2, hf2⟩ := bcell hb3; have hz3 := hb3.size; rw [alloc_size, alloc_size] at hz3))
  have n0 : w.heap.size < w3.heap.size := by omega
  have n1 : w.heap.size + 1 < w3.heap.size := by omega
  have k0 : ∀ j, w3.cell? ⟨w.heap.size, j, none⟩ = ((w.alloc (.cells #[.int .i64 S, .int .i64 A, .int .i64 B, .int .i64 H, .int .i64 M] 27)).alloc (.cells #[.slice none 0 0, .int .i64 0, .int .i64 0, .int .i64 0, .int .i64 0, .int .i64 0, .int .i64 0, .int .i64 0, .int .i64 0, .int .i64 0, .int .i64 0, .bool false] 36)).cell? ⟨w.heap.size, j, none⟩ := fun j => hc2 _ _ (by simp <;> omega)
  have k1 : ∀ j, w3.cell? ⟨w.heap.size + 1, j, none⟩ = ((w.alloc (.cells #[.int .i64 S, .int .i64 A, .int .i64 B, .int .i64 H, .int .i64 M] 27)).alloc (.cells #[.slice none 0 0, .int .i64 0, .int .i64 0, .int .i64 0, .int .i64 0, .int .i64 0, .int .i64 0, .int .i64 0, .int .i64 0, .int .i64 0, .int .i64 0, .bool false] 36)).cell? ⟨w.heap.size + 1, j, none⟩ := fun j => hc2 _ _ (by simp)
  have k2 : ∀ j, w3.frozen? ⟨w.heap.size + 1, j, none⟩ = ((w.alloc (.cells #[.int .i64 S, .int .i64 A, .int .i64 B, .int .i64 H, .int .i64 M] 27)).alloc (.cells #[.slice none 0 0, .int .i64 0, .int .i64 0, .int .i64 0, .int .i64 0, .int .i64 0, .int .i64 0, .int .i64 0, .int .i64 0, .int .i64 0, .int .i64 0, .bool false] 36)).frozen? ⟨w.heap.size + 1, j, none⟩ := fun j => hf2 _ _ (by simp)
  have ka0 : w3.cell? ⟨w.heap.size, 0, none⟩ = some (.int .i64 S) := (k0 0).trans (by simp [go_sem])
  have ka1 : w3.cell? ⟨w.heap.size, 1, none⟩ = some (.int .i64 A) := (k0 1).trans (by simp [go_sem])
  have ka2 : w3.cell? ⟨w.heap.size, 2, none⟩ = some (.int .i64 B) := (k0 2).trans (by simp [go_sem])
  have ka3 : w3.cell? ⟨w.heap.size, 3, none⟩ = some (.int .i64 H) := (k0 3).trans (by simp [go_sem])
  have ka4 : w3.cell? ⟨w.heap.size, 4, none⟩ = some (.int .i64 M) := (k0 4).trans (by simp [go_sem])
  have kr0 : w3.cell? ⟨w.heap.size + 1, 0, none⟩ = some (.slice none 0 0) := (k1 0).trans (by simp [go_sem])
  have kr1 : w3.cell? ⟨w.heap.size + 1, 1, none⟩ = some (.int .i64 0) := (k1 1).trans (by simp [go_sem])
  have kr2 : w3.cell? ⟨w.heap.size + 1, 2, none⟩ = some (.int .i64 0) := (k1 2).trans (by simp [go_sem])
  have kr3 : w3.cell? ⟨w.heap.size + 1, 3, none⟩ = some (.int .i64 0) := (k1 3).trans (by simp [go_sem])
  have kr4 : w3.cell? ⟨w.heap.size + 1, 4, none⟩ = some (.int .i64 0) := (k1 4).trans (by simp [go_sem])
  have kr5 : w3.cell? ⟨w.heap.size + 1, 5, none⟩ = some (.int .i64 0) := (k1 5).trans (by simp [go_sem])
  have kr6 : w3.cell? ⟨w.heap.size + 1, 6, none⟩ = some (.int .i64 0) := (k1 6).trans (by simp [go_sem])
  have kr7 : w3.cell? ⟨w.heap.size + 1, 7, none⟩ = some (.int .i64 0) := (k1 7).trans (by simp [go_sem])
  have kr8 : w3.cell? ⟨w.heap.size + 1, 8, none⟩ = some (.int .i64 0) := (k1 8).trans (by simp [go_sem])
  have kr9 : w3.cell? ⟨w.heap.size + 1, 9, none⟩ = some (.int .i64 0) := (k1 9).trans (by simp [go_sem])
  have kr10 : w3.cell? ⟨w.heap.size + 1, 10, none⟩ = some (.int .i64 0) := (k1 10).trans (by simp [go_sem])
  have kr11 : w3.cell? ⟨w.heap.size + 1, 11, none⟩ = some (.bool false) := (k1 11).trans (by simp [go_sem])
  have kz0 : w3.frozen? ⟨w.heap.size + 1, 0, none⟩ = false := (k2 0).trans (by simp [go_sem])
  have kz1 : w3.frozen? ⟨w.heap.size + 1, 1, none⟩ = false := (k2 1).trans (by simp [go_sem])
  have kz2 : w3.frozen? ⟨w.heap.size + 1, 2, none⟩ = false := (k2 2).trans (by simp [go_sem])
  have kz3 : w3.frozen? ⟨w.heap.size + 1, 3, none⟩ = false := (k2 3).trans (by simp [go_sem])
  have kz4 : w3.frozen? ⟨w.heap.size + 1, 4, none⟩ = false := (k2 4).trans (by simp [go_sem])
  have kz5 : w3.frozen? ⟨w.heap.size + 1, 5, none⟩ = false := (k2 5).trans (by simp [go_sem])
  have kz6 : w3.frozen? ⟨w.heap.size + 1, 6, none⟩ = false := (k2 6).trans (by simp [go_sem])
  have kz7 : w3.frozen? ⟨w.heap.size + 1, 7, none⟩ = false := (k2 7).trans (by simp [go_sem])
  have kz8 : w3.frozen? ⟨w.heap.size + 1, 8, none⟩ = false := (k2 8).trans (by simp [go_sem])
  have kz9 : w3.frozen? ⟨w.heap.size + 1, 9, none⟩ = false := (k2 9).trans (by simp [go_sem])
  have kz10 : w3.frozen? ⟨w.heap.size + 1, 10, none⟩ = false := (k2 10).trans (by simp [go_sem])
  have kz11 : w3.frozen? ⟨w.heap.size + 1, 11, none⟩ = false := (k2 11).trans (by simp [go_sem])
  have KEEP : ∀ w', Below w3.heap.size w3 w' → (w'.cell? ⟨w.heap.size, 0, none⟩ = some (.int .i64 S) ∧ w'.cell? ⟨w.heap.size, 1, none⟩ = some (.int .i64 A) ∧ w'.cell? ⟨w.heap.size, 2, none⟩ = some (.int .i64 B) ∧ w'.cell? ⟨w.heap.size, 3, none⟩ = some (.int .i64 H) ∧ w'.cell? ⟨w.heap.size, 4, none⟩ = some (.int .i64 M) ∧ w'.cell? ⟨w.heap.size + 1, 0, none⟩ = some (.slice none 0 0) ∧ w'.cell? ⟨w.heap.size + 1, 1, none⟩ = some (.int .i64 0) ∧ w'.cell? ⟨w.heap.size + 1, 2, none⟩ = some (.int .i64 0) ∧ w'.cell? ⟨w.heap.size + 1, 3, none⟩ = some (.int .i64 0) ∧ w'.cell? ⟨w.heap.size + 1, 4, none⟩ = some (.int .i64 0) ∧ w'.cell? ⟨w.heap.size + 1, 5, none⟩ = some (.int .i64 0) ∧ w'.cell? ⟨w.heap.size + 1, 6, none⟩ = some (.int .i64 0) ∧ w'.cell? ⟨w.heap.size + 1, 7, none⟩ = some (.int .i64 0) ∧ w'.cell? ⟨w.heap.size + 1, 8, none⟩ = some (.int .i64 0) ∧ w'.cell? ⟨w.heap.size + 1, 9, none⟩ = some (.int .i64 0) ∧ w'.cell? ⟨w.heap.size + 1, 10, none⟩ = some (.int .i64 0) ∧ w'.cell? ⟨w.heap.size + 1, 11, none⟩ = some (.bool false) ∧ w'.frozen? ⟨w.heap.size + 1, 0, none⟩ = false ∧ w'.frozen? ⟨w.heap.size + 1, 1, none⟩ = false ∧ w'.frozen? ⟨w.heap.size + 1, 2, none⟩ = false ∧ w'.frozen? ⟨w.heap.size + 1, 3, none⟩ = false ∧ w'.frozen? ⟨w.heap.size + 1, 4, none⟩ = false ∧ w'.frozen? ⟨w.heap.size + 1, 5, none⟩ = false ∧ w'.frozen? ⟨w.heap.size + 1, 6, none⟩ = false ∧ w'.frozen? ⟨w.heap.size + 1, 7, none⟩ = false ∧ w'.frozen? ⟨w.heap.size + 1, 8, none⟩ = false ∧ w'.frozen? ⟨w.heap.size + 1, 9, none⟩ = false ∧ w'.frozen? ⟨w.heap.size + 1, 10, none⟩ = false ∧ w'.frozen? ⟨w.heap.size + 1, 11, none⟩ = false) := fun w' hb' => ⟨(hb'.cell n0).trans ka0, (hb'.cell n0).trans ka1, (hb'.cell n0).trans ka2, (hb'.cell n0).trans ka3, (hb'.cell n0).trans ka4, (hb'.cell n1).trans kr0, (hb'.cell n1).trans kr1, (hb'.cell n1).trans kr2, (hb'.cell n1).trans kr3, (hb'.cell n1).trans kr4, (hb'.cell n1).trans kr5, (hb'.cell n1).trans kr6, (hb'.cell n1).trans kr7, (hb'.cell n1).trans kr8, (hb'.cell n1).trans kr9, (hb'.cell n1).trans kr10, (hb'.cell n1).trans kr11, (hb'.frozen n1).trans kz0, (hb'.frozen n1).trans kz1, (hb'.frozen n1).trans kz2, (hb'.frozen n1).trans kz3, (hb'.frozen n1).trans kz4, (hb'.frozen n1).trans kz5, (hb'.frozen n1).trans kz6, (hb'.frozen n1).trans kz7, (hb'.frozen n1).trans kz8, (hb'.frozen n1).trans kz9, (hb'.frozen n1).trans kz10, (hb'.frozen n1).trans kz11⟩
  have HK := hid KEEP
  have HKL : Hid (∀ w', Below w3.heap.size w3 w' → ((w'.cell? ⟨w.heap.size, 0, none⟩ = some (.int .i64 S) ∧ w'.cell? ⟨w.heap.size, 1, none⟩ = some (.int .i64 A) ∧ w'.cell? ⟨w.heap.size, 2, none⟩ = some (.int .i64 B) ∧ w'.cell? ⟨w.heap.size, 3, none⟩ = some (.int .i64 H) ∧ w'.cell? ⟨w.heap.size, 4, none⟩ = some (.int .i64 M) ∧ w'.frozen? ⟨w.heap.size + 1, 0, none⟩ = false ∧ w'.frozen? ⟨w.heap.size + 1, 1, none⟩ = false ∧ w'.frozen? ⟨w.heap.size + 1, 2, none⟩ = false ∧ w'.frozen? ⟨w.heap.size + 1, 3, none⟩ = false ∧ w'.frozen? ⟨w.heap.size + 1, 4, none⟩ = false ∧ w'.frozen? ⟨w.heap.size + 1, 5, none⟩ = false ∧ w'.frozen? ⟨w.heap.size + 1, 6, none⟩ = false ∧ w'.frozen? ⟨w.heap.size + 1, 7, none⟩ = false ∧ w'.frozen? ⟨w.heap.size + 1, 8, none⟩ = false ∧ w'.frozen? ⟨w.heap.size + 1, 9, none⟩ = false ∧ w'.frozen? ⟨w.heap.size + 1, 10, none⟩ = false ∧ w'.frozen? ⟨w.heap.size + 1, 11, none⟩ = false))) := hid (fun w' hb' => by obtain ⟨j0, j1, j2, j3, j4, x0, x1, x2, x3, x4, x5, x6, x7, x8, x9, x10, x11, z0, z1, z2, z3, z4, z5, z6, z7, z8, z9, z10, z11⟩ := KEEP w' hb'; exact ⟨j0, j1, j2, j3, j4, z0, z1, z2, z3, z4, z5, z6, z7, z8, z9, z10, z11⟩)
  have HKR : Hid (∀ w', Below w3.heap.size w3 w' → (w'.cell? ⟨w.heap.size + 1, 0, none⟩ = some (.slice none 0 0) ∧ w'.cell? ⟨w.heap.size + 1, 1, none⟩ = some (.int .i64 0) ∧ w'.cell? ⟨w.heap.size + 1, 2, none⟩ = some (.int .i64 0) ∧ w'.cell? ⟨w.heap.size + 1, 3, none⟩ = some (.int .i64 0) ∧ w'.cell? ⟨w.heap.size + 1, 4, none⟩ = some (.int .i64 0) ∧ w'.cell? ⟨w.heap.size + 1, 5, none⟩ = some (.int .i64 0) ∧ w'.cell? ⟨w.heap.size + 1, 6, none⟩ = some (.int .i64 0) ∧ w'.cell? ⟨w.heap.size + 1, 7, none⟩ = some (.int .i64 0) ∧ w'.cell? ⟨w.heap.size + 1, 8, none⟩ = some (.int .i64 0) ∧ w'.cell? ⟨w.heap.size + 1, 9, none⟩ = some (.int .i64 0) ∧ w'.cell? ⟨w.heap.size + 1, 10, none⟩ = some (.int .i64 0) ∧ w'.cell? ⟨w.heap.size + 1, 11, none⟩ = some (.bool false))) := hid (fun w' hb' => by obtain ⟨j0, j1, j2, j3, j4, x0, x1, x2, x3, x4, x5, x6, x7, x8, x9, x10, x11, z0, z1, z2, z3, z4, z5, z6, z7, z8, z9, z10, z11⟩ := KEEP w' hb'; exact ⟨x0, x1, x2, x3, x4, x5, x6, x7, x8, x9, x10, x11⟩)
  have HSS : Hid (∀ (w' : World) (o : Nat) (u : Value), ((w'.cell? ⟨w.heap.size, 0, none⟩ = some (.int .i64 S) ∧ w'.cell? ⟨w.heap.size, 1, none⟩ = some (.int .i64 A) ∧ w'.cell? ⟨w.heap.size, 2, none⟩ = some (.int .i64 B) ∧ w'.cell? ⟨w.heap.size, 3, none⟩ = some (.int .i64 H) ∧ w'.cell? ⟨w.heap.size, 4, none⟩ = some (.int .i64 M) ∧ w'.frozen? ⟨w.heap.size + 1, 0, none⟩ = false ∧ w'.frozen? ⟨w.heap.size + 1, 1, none⟩ = false ∧ w'.frozen? ⟨w.heap.size + 1, 2, none⟩ = false ∧ w'.frozen? ⟨w.heap.size + 1, 3, none⟩ = false ∧ w'.frozen? ⟨w.heap.size + 1, 4, none⟩ = false ∧ w'.frozen? ⟨w.heap.size + 1, 5, none⟩ = false ∧ w'.frozen? ⟨w.heap.size + 1, 6, none⟩ = false ∧ w'.frozen? ⟨w.heap.size + 1, 7, none⟩ = false ∧ w'.frozen? ⟨w.heap.size + 1, 8, none⟩ = false ∧ w'.frozen? ⟨w.heap.size + 1, 9, none⟩ = false ∧ w'.frozen? ⟨w.heap.size + 1, 10, none⟩ = false ∧ w'.frozen? ⟨w.heap.size + 1, 11, none⟩ = false)) → ((w'.setCell ⟨w.heap.size + 1, o, none⟩ u).cell? ⟨w.heap.size, 0, none⟩ = some (.int .i64 S) ∧ (w'.setCell ⟨w.heap.size + 1, o, none⟩ u).cell? ⟨w.heap.size, 1, none⟩ = some (.int .i64 A) ∧ (w'.setCell ⟨w.heap.size + 1, o, none⟩ u).cell? ⟨w.heap.size, 2, none⟩ = some (.int .i64 B) ∧ (w'.setCell ⟨w.heap.size + 1, o, none⟩ u).cell? ⟨w.heap.size, 3, none⟩ = some (.int .i64 H) ∧ (w'.setCell ⟨w.heap.size + 1, o, none⟩ u).cell? ⟨w.heap.size, 4, none⟩ = some (.int .i64 M) ∧ (w'.setCell ⟨w.heap.size + 1, o, none⟩ u).frozen? ⟨w.heap.size + 1, 0, none⟩ = false ∧ (w'.setCell ⟨w.heap.size + 1, o, none⟩ u).frozen? ⟨w.heap.size + 1, 1, none⟩ = false ∧ (w'.setCell ⟨w.heap.size + 1, o, none⟩ u).frozen? ⟨w.heap.size + 1, 2, none⟩ = false ∧ (w'.setCell ⟨w.heap.size + 1, o, none⟩ u).frozen? ⟨w.heap.size + 1, 3, none⟩ = false ∧ (w'.setCell ⟨w.heap.size + 1, o, none⟩ u).frozen? ⟨w.heap.size + 1, 4, none⟩ = false ∧ (w'.setCell ⟨w.heap.size + 1, o, none⟩ u).frozen? ⟨w.heap.size + 1, 5, none⟩ = false ∧ (w'.setCell ⟨w.heap.size + 1, o, none⟩ u).frozen? ⟨w.heap.size + 1, 6, none⟩ = false ∧ (w'.setCell ⟨w.heap.size + 1, o, none⟩ u).frozen? ⟨w.heap.size + 1, 7, none⟩ = false ∧ (w'.setCell ⟨w.heap.size + 1, o, none⟩ u).frozen? ⟨w.heap.size + 1, 8, none⟩ = false ∧ (w'.setCell ⟨w.heap.size + 1, o, none⟩ u).frozen? ⟨w.heap.size + 1, 9, none⟩ = false ∧ (w'.setCell ⟨w.heap.size + 1, o, none⟩ u).frozen? ⟨w.heap.size + 1, 10, none⟩ = false ∧ (w'.setCell ⟨w.heap.size + 1, o, none⟩ u).frozen? ⟨w.heap.size + 1, 11, none⟩ = false)) := hid (fun w' o u hh => by obtain ⟨j0, j1, j2, j3, j4, z0, z1, z2, z3, z4, z5, z6, z7, z8, z9, z10, z11⟩ := hh; exact ⟨(World.cell?_of_block (Below.heap_setCell _ _ _ _ (by dsimp only; omega))).trans j0, (World.cell?_of_block (Below.heap_setCell _ _ _ _ (by dsimp only; omega))).trans j1, (World.cell?_of_block (Below.heap_setCell _ _ _ _ (by dsimp only; omega))).trans j2, (World.cell?_of_block (Below.heap_setCell _ _ _ _ (by dsimp only; omega))).trans j3, (World.cell?_of_block (Below.heap_setCell _ _ _ _ (by dsimp only; omega))).trans j4, (set_frz _ _ _ _).trans z0, (set_frz _ _ _ _).trans z1, (set_frz _ _ _ _).trans z2, (set_frz _ _ _ _).trans z3, (set_frz _ _ _ _).trans z4, (set_frz _ _ _ _).trans z5, (set_frz _ _ _ _).trans z6, (set_frz _ _ _ _).trans z7, (set_frz _ _ _ _).trans z8, (set_frz _ _ _ _).trans z9, (set_frz _ _ _ _).trans z10, (set_frz _ _ _ _).trans z11⟩)
  have HB : Below w.heap.size w w3 := hB1.trans (hb3.mono (by simp <;> omega))
  have HN : Hid (∀ (j : Nat) (u : Value), (flatP X Y len)[j]? = some u → (w3.alloc (.cells #[] 34)).cell? ((⟨b, off, none⟩ : Addr).add j) = some u) := hid (news_of (fun i hi => ⟨((HB.alloc HB.size _).cell hbw).trans (HCELL.out i hi).1, ((HB.alloc HB.size _).cell hbw).trans (HCELL.out i hi).2⟩))
  clear KEEP k0 k1 k2 ka0 ka1 ka2 ka3 ka4 kr0 kr1 kr2 kr3 kr4 kr5 kr6 kr7 kr8 kr9 kr10 kr11 kz0 kz1 kz2 kz3 kz4 kz5 kz6 kz7 kz8 kz9 kz10 kz11 hc2 hf2 hb3 HP hWa
  have HL : Hid (([] : List Value) ++ flatP X Y len = flatP X Y len) := hid (List.nil_append _)
  have HLN := hid (flatP_len X Y len)
  have HFO := hid (flatP_one X Y len)
  have HFG := hid (flatP_get X Y len)
  generalize flatP X Y len = news at *
  go_region_held3 (fun w' => (w'.cell? ⟨w.heap.size, 0, none⟩ = some (.int .i64 S) ∧ w'.cell? ⟨w.heap.size, 1, none⟩ = some (.int .i64 A) ∧ w'.cell? ⟨w.heap.size, 2, none⟩ = some (.int .i64 B) ∧ w'.cell? ⟨w.heap.size, 3, none⟩ = some (.int .i64 H) ∧ w'.cell? ⟨w.heap.size, 4, none⟩ = some (.int .i64 M) ∧ w'.frozen? ⟨w.heap.size + 1, 0, none⟩ = false ∧ w'.frozen? ⟨w.heap.size + 1, 1, none⟩ = false ∧ w'.frozen? ⟨w.heap.size + 1, 2, none⟩ = false ∧ w'.frozen? ⟨w.heap.size + 1, 3, none⟩ = false ∧ w'.frozen? ⟨w.heap.size + 1, 4, none⟩ = false ∧ w'.frozen? ⟨w.heap.size + 1, 5, none⟩ = false ∧ w'.frozen? ⟨w.heap.size + 1, 6, none⟩ = false ∧ w'.frozen? ⟨w.heap.size + 1, 7, none⟩ = false ∧ w'.frozen? ⟨w.heap.size + 1, 8, none⟩ = false ∧ w'.frozen? ⟨w.heap.size + 1, 9, none⟩ = false ∧ w'.frozen? ⟨w.heap.size + 1, 10, none⟩ = false ∧ w'.frozen? ⟨w.heap.size + 1, 11, none⟩ = false)) (((repeat (with_reducible refine HSS.out _ _ _ ?_)); exact HKL.out _ (by (repeat' (first | assumption | exact Below.refl _ _ | refine Below.drew ?_ | refine Below.alloc ?_ ?_ _ | (simp; done) | (simp; omega)))))) (first
    | (refine step_append_lies _ rfl _ _ 23 rfl w3.heap.size 34 i0 (.agg #[.int .i64 0, .int .i64 0]) 2 16 Try.underlying23 hi hz0 hz1 hz2 agg2_size (by decide) (.slice (some ⟨w3.heap.size, 0, none⟩) 0 0) 0 [] rfl (own_empty w3) ⟨b, off, none⟩ len cap news rfl HLN.out (fun j u hj => (HN.out j u hj)) HFO.out p1 (by unfold maxLen; omega) (by omega) (by simp) (w3.heap.size + 1) (by simp) ?_
       intro g cap' w4 hown hgrow hgg hlt; have HG := hid hgrow; have HBZ : Below w3.heap.size w3 w4 := Below.grown (by (repeat' (first | assumption | exact Below.refl _ _ | refine Below.drew ?_ | refine Below.alloc ?_ ?_ _ | (simp; done) | (simp; omega)))) HG.out (by simp) (fun k hk => by have hk' : some w3.heap.size = some k := hk; injection hk' with hk'; omega); have HZS := HBZ.size; have HRR := hid (HK.out _ HBZ); obtain ⟨e0, e1, e2, e3, e4, e5, e6, e7, e8, e9, e10, e11⟩ := HKR.out w4 HBZ))
  go_wp2_with fail
  have hgs : w3.heap.size ≤ g := by
    rcases hgg with h | h
    · have h' : some w3.heap.size = some g := h; injection h' with h'; omega
    · omega
  rw [HL.out, Nat.zero_add] at hown
  refine bodyPost_ret (v := .tuple #[ref12 (.slice (some ⟨g, 0, none⟩) len cap') S A B H M ah tl, .int .i64 0]) (by simp [results, Try.results9, go_sem, e0, e1, e2, e3, e4, e5, e6, e7, e8, e9, e10, e11]) rfl ?_
  have hfar : ∀ (w' : World) (o o' : Nat) (u : Value), (w'.setCell ⟨w.heap.size + 1, o, none⟩ u).cell? ⟨g, o', none⟩ = w'.cell? ⟨g, o', none⟩ := fun w' o o' u => World.cell?_of_block (Below.heap_setCell _ _ _ _ (by dsimp only; omega))
  have hBB : Below w.heap.size w w4 := HB.trans (HBZ.mono (by omega))
  refine ⟨g, cap', rfl, by omega, by simpa [World.setCell] using hlt, hid (fun i hi => ?_), ((((((((((((hBB.setCell (by dsimp only; omega) _).setCell (by dsimp only; omega) _).setCell (by dsimp only; omega) _).setCell (by dsimp only; omega) _).setCell (by dsimp only; omega) _).setCell (by dsimp only; omega) _).setCell (by dsimp only; omega) _).setCell (by dsimp only; omega) _).setCell (by dsimp only; omega) _).setCell (by dsimp only; omega) _).setCell (by dsimp only; omega) _).setCell (by dsimp only; omega) _), own_cap hown⟩
  have k := HFG.out i hi
  have c1 := hown.cellAt (i * 2) (by omega)
  have c2 := hown.cellAt (i * 2 + 1) (by omega)
  simp only [hfar]
  exact ⟨c1.trans k.1, c2.trans k.2⟩
end Go.Proofs.Ytdcclpdnnhaeoaa

