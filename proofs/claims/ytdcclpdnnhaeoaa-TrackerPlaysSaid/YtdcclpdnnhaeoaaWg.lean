/- Walks: a new tracker. -/
import Derived.Test.YtdcclpdnnhaeoaaWf
import Derived.Test.YtdcclpdnnhaeoaaFrame3
import Derived.Deep.RegionHeld3
namespace Go.Proofs.Ytdcclpdnnhaeoaa
open Go.RowKit
set_option linter.unusedVariables false
/-- a tracker, in memory -/
structure Trk (w : World) (g : Nat) (v : Value) (S A B H M ah tl pr ax ay : Int) (ai : Bool) : Prop where
  lt : g < w.heap.size
  c0 : w.cell? ⟨g, 0, none⟩ = some (v)
  c1 : w.cell? ⟨g, 1, none⟩ = some (.int .i64 S)
  c2 : w.cell? ⟨g, 2, none⟩ = some (.int .i64 A)
  c3 : w.cell? ⟨g, 3, none⟩ = some (.int .i64 B)
  c4 : w.cell? ⟨g, 4, none⟩ = some (.int .i64 H)
  c5 : w.cell? ⟨g, 5, none⟩ = some (.int .i64 M)
  c6 : w.cell? ⟨g, 6, none⟩ = some (.int .i64 ah)
  c7 : w.cell? ⟨g, 7, none⟩ = some (.int .i64 tl)
  c8 : w.cell? ⟨g, 8, none⟩ = some (.int .i64 pr)
  c9 : w.cell? ⟨g, 9, none⟩ = some (.int .i64 ax)
  c10 : w.cell? ⟨g, 10, none⟩ = some (.int .i64 ay)
  c11 : w.cell? ⟨g, 11, none⟩ = some (.bool ai)
  f0 : w.frozen? ⟨g, 0, none⟩ = false
  f8 : w.frozen? ⟨g, 8, none⟩ = false
  f9 : w.frozen? ⟨g, 9, none⟩ = false
  f10 : w.frozen? ⟨g, 10, none⟩ = false
  f11 : w.frozen? ⟨g, 11, none⟩ = false
theorem Trk.below {w w' : World} {g : Nat} {v : Value} {S A B H M ah tl pr ax ay : Int} {ai : Bool} (h : Trk w g v S A B H M ah tl pr ax ay ai) (hb : Below w.heap.size w w') : Trk w' g v S A B H M ah tl pr ax ay ai where
  lt := Nat.lt_of_lt_of_le h.lt hb.size
  c0 := (hb.cell h.lt).trans h.c0
  c1 := (hb.cell h.lt).trans h.c1
  c2 := (hb.cell h.lt).trans h.c2
  c3 := (hb.cell h.lt).trans h.c3
  c4 := (hb.cell h.lt).trans h.c4
  c5 := (hb.cell h.lt).trans h.c5
  c6 := (hb.cell h.lt).trans h.c6
  c7 := (hb.cell h.lt).trans h.c7
  c8 := (hb.cell h.lt).trans h.c8
  c9 := (hb.cell h.lt).trans h.c9
  c10 := (hb.cell h.lt).trans h.c10
  c11 := (hb.cell h.lt).trans h.c11
  f0 := (hb.frozen h.lt).trans h.f0
  f8 := (hb.frozen h.lt).trans h.f8
  f9 := (hb.frozen h.lt).trans h.f9
  f10 := (hb.frozen h.lt).trans h.f10
  f11 := (hb.frozen h.lt).trans h.f11
theorem news_of {w : World} {b off len : Nat} {X Y : Nat → Int} (h : ∀ i, i < len → w.cell? ⟨b, off + i * 2, none⟩ = some (.int .i64 (X i)) ∧ w.cell? ⟨b, off + i * 2 + 1, none⟩ = some (.int .i64 (Y i))) : ∀ (j : Nat) (u : Value), (flatP X Y len)[j]? = some u → w.cell? ((⟨b, off, none⟩ : Addr).add j) = some u := by
  intro j u hj
  have hl := flatP_len X Y len
  have hj' : j < len * 2 := by
    rw [← hl]
    exact (List.getElem?_eq_some_iff.1 hj).1
  rw [add_plain]
  have k := flatP_get X Y len (j / 2) (by omega)
  have q := h (j / 2) (by omega)
  rcases Nat.mod_two_eq_zero_or_one j with e | e
  · have ej : j / 2 * 2 = j := by omega
    rw [ej] at k q
    rw [hj] at k
    rw [q.1, ← k.1]
  · have ej : j / 2 * 2 + 1 = j := by omega
    have ej2 : off + j / 2 * 2 + 1 = off + j := by omega
    rw [ej] at k
    rw [hj] at k
    rw [ej2] at q
    rw [q.2, ← k.2]
theorem flatP_one (X Y : Nat → Int) : ∀ n, ∀ u ∈ flatP X Y n, u.oneCell' = true
  | 0 => by intro u hu; simp [flatP] at hu
  | n + 1 => by
    intro u hu
    simp only [flatP, List.mem_append, List.mem_cons, List.not_mem_nil, or_false] at hu
    rcases hu with h | rfl | rfl
    · exact flatP_one X Y n u h
    · rfl
    · rfl
theorem own_empty (w : World) : (w.alloc (.cells #[] 34)).ownsRow w.heap.size 34 2 (.slice (some ⟨w.heap.size, 0, none⟩) 0 0) 0 [] :=
  ⟨rfl, Or.inr ⟨w.heap.size, 0, #[], rfl, Nat.le_refl _, by show (w.heap.push _)[w.heap.size]? = _; rw [Array.getElem?_push_size], Nat.le_refl _, Nat.zero_le _, rfl, rfl⟩⟩
set_option maxHeartbeats 4000000 in
theorem new_ok (a : Option Addr) (len cap : Nat) (X Y : Nat → Int) (S A B H M ah tl : Int) (hp : pchk len X Y = 0) (a1 : 0 ≤ ah) (a2 : ah ≤ 1048576) (t1 : 0 ≤ tl) (t2 : tl ≤ 1048576) (hc : chk S A B H M = true) (w : World) (ha : Hid (Wants w a len X Y)) :
    Calls Try.prog 8 #[.slice a len cap, lim S A B H M, .int .i64 ah, .int .i64 tl] w fun e w' => ∃ g g2 cap', e = .returned (.tuple #[.pointer (some ⟨g, 0, none⟩), .int .i64 0]) ∧ w.heap.size ≤ g ∧ Trk w' g (.slice (some ⟨g2, 0, none⟩) len cap') S A B H M ah tl 0 0 0 false ∧ w.heap.size ≤ g2 ∧ g2 < g ∧ Hid (∀ i, i < len → w'.cell? ⟨g2, i * 2, none⟩ = some (.int .i64 (X i)) ∧ w'.cell? ⟨g2, i * 2 + 1, none⟩ = some (.int .i64 (Y i))) ∧ Below w.heap.size w w' := by
  have hpp := pchk_zero hp
  obtain ⟨p1, p2, p3⟩ := hpp
  obtain ⟨b, off, rfl, hbw, hcell⟩ := ha.out p1
  have HCELL := hid hcell
  clear hcell
  obtain ⟨i0, hi, hz0, hz1, hz2⟩ := info_parts info34
  have HP : Hid (∀ w, Hid (Wants w (some ⟨b, off, none⟩) len X Y) → Calls Try.prog 24 #[.slice (some ⟨b, off, none⟩) len cap] w fun e w' => e = .returned (.int .i64 0) ∧ Below w.heap.size w w') := hid (fun w h => by have := pcheck_any (some ⟨b, off, none⟩) len cap X Y w h; rw [hp] at this; exact this)
  have HC : Hid (∀ w, Calls Try.prog 10 #[lim S A B H M] w fun e w' => e = .returned (.int .i64 0) ∧ Below w.heap.size w w') := hid (fun w => by have := check_any S A B H M w; unfold chkE at this; rw [hc] at this; exact this)
  have ra : inB ah (-1048576) 1048576 = true := inB_mk (by omega) a2
  have rt : inB tl (-1048576) 1048576 = true := inB_mk (by omega) t2
  clear hp hc p3
  have hWa : Hid (Wants (w.alloc (.cells #[.int .i64 S, .int .i64 A, .int .i64 B, .int .i64 H, .int .i64 M] 27)) (some ⟨b, off, none⟩) len X Y) := hid (wants_below ha.out ((Below.refl _ _).alloc (Nat.le_refl _) _))
  have a1' : decide (ah < 0) = false := by simp; omega
  have t1' : decide (tl < 0) = false := by simp; omega
  go_enter Try.func8, Try.ntmps8
  go_upto_region 9 with (first
    | (go_at_call 24; (with_reducible refine (HP.out _ hWa).mono ?_); rintro e w2 ⟨rfl, hb2⟩; obtain ⟨hc2, hf2⟩ := bcell hb2; have hz2' := hb2.size; rw [alloc_size] at hz2')
    | (go_at_call 25; (with_reducible refine (treach_any _ _).mono ?_); rintro e w' ⟨rfl, rfl⟩)
    | (go_at_call 10; (with_reducible refine (HC.out _).mono ?_); rintro e w3 ⟨rfl, hb3⟩; obtain ⟨hc3, hf3⟩ := bcell hb3; have hz3 := hb3.size))
  have n0 : w.heap.size < w3.heap.size := by omega
  have k0 : ∀ j, w3.cell? ⟨w.heap.size, j, none⟩ = (w.alloc (.cells #[.int .i64 S, .int .i64 A, .int .i64 B, .int .i64 H, .int .i64 M] 27)).cell? ⟨w.heap.size, j, none⟩ := fun j => (hc3 _ _ (by omega)).trans (hc2 _ _ (by simp))
  have k00 : w3.cell? ⟨w.heap.size, 0, none⟩ = some (.int .i64 S) := (k0 0).trans (by simp [go_sem])
  have k01 : w3.cell? ⟨w.heap.size, 1, none⟩ = some (.int .i64 A) := (k0 1).trans (by simp [go_sem])
  have k02 : w3.cell? ⟨w.heap.size, 2, none⟩ = some (.int .i64 B) := (k0 2).trans (by simp [go_sem])
  have k03 : w3.cell? ⟨w.heap.size, 3, none⟩ = some (.int .i64 H) := (k0 3).trans (by simp [go_sem])
  have k04 : w3.cell? ⟨w.heap.size, 4, none⟩ = some (.int .i64 M) := (k0 4).trans (by simp [go_sem])
  have KEEP : ∀ w', Below w3.heap.size w3 w' → (w'.cell? ⟨w.heap.size, 0, none⟩ = some (.int .i64 S) ∧ w'.cell? ⟨w.heap.size, 1, none⟩ = some (.int .i64 A) ∧ w'.cell? ⟨w.heap.size, 2, none⟩ = some (.int .i64 B) ∧ w'.cell? ⟨w.heap.size, 3, none⟩ = some (.int .i64 H) ∧ w'.cell? ⟨w.heap.size, 4, none⟩ = some (.int .i64 M)) := fun w' hb' => ⟨(hb'.cell n0).trans k00, (hb'.cell n0).trans k01, (hb'.cell n0).trans k02, (hb'.cell n0).trans k03, (hb'.cell n0).trans k04⟩
  have HK := hid KEEP
  have HB : Below w.heap.size w w3 := ((Below.refl _ _).alloc (Nat.le_refl _) _).trans ((hb2.mono (by simp)).trans (hb3.mono (by omega)))
  have HN : Hid (∀ (j : Nat) (u : Value), (flatP X Y len)[j]? = some u → (w3.alloc (.cells #[] 34)).cell? ((⟨b, off, none⟩ : Addr).add j) = some u) := hid (news_of (fun i hi => ⟨((HB.alloc HB.size _).cell hbw).trans (HCELL.out i hi).1, ((HB.alloc HB.size _).cell hbw).trans (HCELL.out i hi).2⟩))
  clear KEEP k0 k00 k01 k02 k03 k04 hc2 hf2 hc3 hf3 hb2 hb3 HP HC hWa
  have HL : Hid (([] : List Value) ++ flatP X Y len = flatP X Y len) := hid (List.nil_append _)
  have HLN := hid (flatP_len X Y len)
  have HFO := hid (flatP_one X Y len)
  have HFG := hid (flatP_get X Y len)
  generalize flatP X Y len = news at *
  go_region_held3 (fun w' => w'.cell? ⟨w.heap.size, 0, none⟩ = some (.int .i64 S) ∧ w'.cell? ⟨w.heap.size, 1, none⟩ = some (.int .i64 A) ∧ w'.cell? ⟨w.heap.size, 2, none⟩ = some (.int .i64 B) ∧ w'.cell? ⟨w.heap.size, 3, none⟩ = some (.int .i64 H) ∧ w'.cell? ⟨w.heap.size, 4, none⟩ = some (.int .i64 M)) (exact HK.out _ (by (repeat' (first | assumption | exact Below.refl _ _ | refine Below.drew ?_ | refine Below.alloc ?_ ?_ _ | (simp; done) | (simp; omega))))) (first
    | (refine step_append_lies _ rfl _ _ 23 rfl w3.heap.size 34 i0 (.agg #[.int .i64 0, .int .i64 0]) 2 16 Try.underlying23 hi hz0 hz1 hz2 agg2_size (by decide) (.slice (some ⟨w3.heap.size, 0, none⟩) 0 0) 0 [] rfl (own_empty w3) ⟨b, off, none⟩ len cap news rfl HLN.out (fun j u hj => (HN.out j u hj)) HFO.out p1 (by unfold maxLen; omega) (by omega) (by simp) (w3.heap.size + 1) (by simp) ?_
       intro g cap' w4 hown hgrow hgg hlt; have HG := hid hgrow; have HBZ : Below w3.heap.size w3 w4 := Below.grown (by (repeat' (first | assumption | exact Below.refl _ _ | refine Below.drew ?_ | refine Below.alloc ?_ ?_ _ | (simp; done) | (simp; omega)))) HG.out (by simp) (fun k hk => by have hk' : some w3.heap.size = some k := hk; injection hk' with hk'; omega); have HZS := HBZ.size))
  go_wp2_with fail
  refine bodyPost_ret (v := .tuple #[.pointer (some ⟨w4.heap.size, 0, none⟩), .int .i64 0]) (by simp [results, Try.results8, go_sem]) rfl ?_
  have hgs : w3.heap.size ≤ g := by
    rcases hgg with h | h
    · have h' : some w3.heap.size = some g := h; injection h' with h'; omega
    · omega
  rw [HL.out, Nat.zero_add] at hown
  refine ⟨w4.heap.size, g, cap', rfl, by omega, ⟨by simp, by go_simp, by go_simp, by go_simp, by go_simp, by go_simp, by go_simp, by go_simp, by go_simp, by go_simp, by go_simp, by go_simp, by go_simp, by go_simp, by go_simp, by go_simp, by go_simp, by go_simp⟩, by omega, hlt, hid (fun i hi => ?_), (HB.trans (HBZ.mono (by omega))).alloc (by omega) _⟩
  have k := HFG.out i hi
  have c1 := hown.cellAt (i * 2) (by omega)
  have c2 := hown.cellAt (i * 2 + 1) (by omega)
  exact ⟨(World.cell?_alloc_lt _ _ _ hlt).trans (c1.trans k.1), (World.cell?_alloc_lt _ _ _ hlt).trans (c2.trans k.2)⟩
end Go.Proofs.Ytdcclpdnnhaeoaa
