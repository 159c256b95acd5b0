/- Walks: Target, Replace, and the methods of a nil tracker. -/
import Derived.Test.YtdcclpdnnhaeoaaWs
import Derived.Test.YtdcclpdnnhaeoaaWn
namespace Go.Proofs.Ytdcclpdnnhaeoaa
open Go.RowKit
set_option linter.unusedVariables false
set_option linter.unusedSimpArgs false
theorem Trk.path {w : World} {g : Nat} {v : Value} {S A B H M ah tl pr ax ay : Int} {ai : Bool} (h : Trk w g v S A B H M ah tl pr ax ay ai) (u : Value) : Trk (w.setCell ⟨g, 0, none⟩ u) g u S A B H M ah tl pr ax ay ai := by
  obtain ⟨lt, c0, c1, c2, c3, c4, c5, c6, c7, c8, c9, c10, c11, f0, f8, f9, f10, f11⟩ := h
  constructor
  · simpa [World.setCell] using lt
  all_goals go_simp
theorem target_any {g : Nat} {v : Value} {S A B H M ah tl pr ax ay : Int} {ai : Bool} (hz : ai = false → ax = 0 ∧ ay = 0) (w : World) (T : Trk w g v S A B H M ah tl pr ax ay ai) : Calls Try.prog 18 #[.pointer (some ⟨g, 0, none⟩)] w fun e w' => e = .returned (.tuple #[pt ax ay, .bool ai]) ∧ Below w.heap.size w w' := by
  have hgl := T.lt
  have c9 := T.c9
  have c10 := T.c10
  have c11 := T.c11
  clear T
  cases ai with
  | false =>
    obtain ⟨rfl, rfl⟩ := hz rfl
    go_enter Try.func18, Try.ntmps18
    go_wp2_with fail
    refine bodyPost_ret (v := .tuple #[pt 0 0, .bool false]) (by simp [results, Try.results18, go_sem]) rfl ?_
    exact ⟨rfl, (Below.refl _ _).alloc (Nat.le_refl _) _⟩
  | true =>
    go_enter Try.func18, Try.ntmps18
    go_wp2_with fail
    refine bodyPost_ret (v := .tuple #[pt ax ay, .bool true]) (by simp [results, Try.results18, go_sem]) rfl ?_
    exact ⟨rfl, (Below.refl _ _).alloc (Nat.le_refl _) _⟩
theorem target_nil (w : World) : Calls Try.prog 18 #[.pointer none] w fun e w' => e = .returned (.tuple #[pt 0 0, .bool false]) ∧ Below w.heap.size w w' := by
  go_enter Try.func18, Try.ntmps18
  go_wp2_with fail
  refine bodyPost_ret (v := .tuple #[pt 0 0, .bool false]) (by simp [results, Try.results18, go_sem]) rfl ?_
  exact ⟨rfl, (Below.refl _ _).alloc (Nat.le_refl _) _⟩
theorem progress_nil (w : World) : Calls Try.prog 19 #[.pointer none] w fun e w' => e = .returned (.int .i64 0) ∧ w = w' := by
  go_enter Try.func19, Try.ntmps19
  go_wp2_with fail
  go_ret
  exact ⟨rfl, rfl⟩
theorem replace_nil (v : Value) (w : World) : Calls Try.prog 14 #[.pointer none, v] w fun e w' => e = .returned (.int .i64 6) ∧ w = w' := by
  go_enter Try.func14, Try.ntmps14
  go_wp2_with fail
  go_ret
  exact ⟨rfl, rfl⟩
theorem deviation_nil (x y : Int) (w : World) : Calls Try.prog 20 #[.pointer none, pt x y] w fun e w' => e = .returned (.int .i64 0) ∧ Below w.heap.size w w' := by
  go_enter Try.func20, Try.ntmps20
  go_wp2_with fail
  go_ret
  exact ⟨rfl, (Below.refl _ _).alloc (Nat.le_refl _) _⟩
theorem own_cap {w : World} {base size n cap : Nat} {e : TypeId} {a : Option Addr} {k : Nat} {xs : List Value} (h : w.ownsRow base e size (.slice a k cap) n xs) : k ≤ cap := by
  rcases h.2 with ⟨e1, _⟩ | ⟨g, c, cur, e1, _, _, hc, _⟩
  · injection e1 with e1 e2 e3; omega
  · injection e1 with e1 e2 e3; omega
theorem replace_err (g : Nat) (a : Option Addr) (len cap : Nat) (X Y : Nat → Int) (hp : pchk len X Y ≠ 0) (w : World) (ha : Hid (Wants w a len X Y)) : Calls Try.prog 14 #[.pointer (some ⟨g, 0, none⟩), .slice a len cap] w fun e w' => e = .returned (.int .i64 (pchk len X Y)) ∧ Below w.heap.size w w' := by
  have HP := hid (fun w h => pcheck_any a len cap X Y w h)
  have hp' : (pchk len X Y == 0) = false := by simpa using hp
  generalize pchk len X Y = E at *
  go_enter Try.func14, Try.ntmps14
  go_wp2_with (first | (go_at_call 24; (with_reducible refine (HP.out _ ha).mono ?_); rintro e w2 ⟨rfl, hb2⟩))
  go_ret
  exact ⟨rfl, hb2⟩
set_option maxHeartbeats 4000000 in
theorem replace_ok (g : Nat) (a : Option Addr) (len cap : Nat) (X Y : Nat → Int) {v : Value} {S A B H M ah tl pr ax ay : Int} {ai : Bool} (hp : pchk len X Y = 0) (w : World) (ha : Hid (Wants w a len X Y)) (T : Hid (Trk w g v S A B H M ah tl pr ax ay ai)) : Calls Try.prog 14 #[.pointer (some ⟨g, 0, none⟩), .slice a len cap] w fun e w' => e = .returned (.int .i64 0) ∧ ∃ g2 cap', Trk w' g (.slice (some ⟨g2, 0, none⟩) len cap') S A B H M ah tl 0 0 0 false ∧ w.heap.size ≤ g2 ∧ g2 < w'.heap.size ∧ len ≤ cap' ∧ Hid (∀ i, i < len → w'.cell? ⟨g2, i * 2, none⟩ = some (.int .i64 (X i)) ∧ w'.cell? ⟨g2, i * 2 + 1, none⟩ = some (.int .i64 (Y i))) ∧ Bex g w w' := by
  have hpp := pchk_zero hp
  obtain ⟨p1, p2, p3⟩ := hpp
  obtain ⟨b, off, rfl, hbw, hcell⟩ := ha.out p1
  have HCELL := hid hcell
  clear hcell
  obtain ⟨i0, hi, hz0, hz1, hz2⟩ := info_parts info34
  have hgl := T.out.lt
  have HP : Hid (∀ w, Hid (Wants w (some ⟨b, off, none⟩) len X Y) → Calls Try.prog 24 #[.slice (some ⟨b, off, none⟩) len cap] w fun e w' => e = .returned (.int .i64 0) ∧ Below w.heap.size w w') := hid (fun w h => by have := pcheck_any (some ⟨b, off, none⟩) len cap X Y w h; rw [hp] at this; exact this)
  clear hp p3
  have HFG := hid (flatP_get X Y len)
  have HN : Hid (∀ w2, Below w.heap.size w w2 → ∀ (j : Nat) (u : Value), (flatP X Y len)[j]? = some u → (w2.alloc (.cells #[] 34)).cell? ((⟨b, off, none⟩ : Addr).add j) = some u) := hid (fun w2 hb2 => news_of (fun i hi => ⟨((hb2.alloc hb2.size _).cell hbw).trans (HCELL.out i hi).1, ((hb2.alloc hb2.size _).cell hbw).trans (HCELL.out i hi).2⟩))
  have HL : Hid (([] : List Value) ++ flatP X Y len = flatP X Y len) := hid (List.nil_append _)
  have HLN := hid (flatP_len X Y len)
  have HFO := hid (flatP_one X Y len)
  generalize flatP X Y len = news at *
  go_enter Try.func14, Try.ntmps14
  go_upto_region 6 with (first
    | (go_at_call 24; (with_reducible refine (HP.out _ ha).mono ?_); rintro e w2 ⟨rfl, hb2⟩))
  have hs2 := hb2.size
  go_wp2_with (first
    | (at_builtin; refine wpList_append_lies _ rfl _ _ 23 rfl w2.heap.size 34 i0 (.agg #[.int .i64 0, .int .i64 0]) 2 16 Try.underlying23 hi hz0 hz1 hz2 agg2_size (by decide) (.slice (some ⟨w2.heap.size, 0, none⟩) 0 0) 0 [] (by rfl) (own_empty w2) ⟨b, off, none⟩ len cap news (by rfl) HLN.out (HN.out w2 hb2) HFO.out p1 (by unfold maxLen; omega) (by omega) (by simp) (w2.heap.size + 1) (by simp) ?_
       intro g2 cap' w4 hown hgrow hat hlt
       have HG := hid hgrow
       have HO := hid hown
       have hw4 : w2.heap.size + 1 ≤ w4.heap.size := by have := hgrow.size; simpa using this
       have T4 := (T.out.below hb2).keep (w' := w4) (by omega) ((HG.out.block g (by simp; omega) (fun e => by have e' : some g = some w2.heap.size := e; injection e' with e'; omega)).trans (((Below.refl w2.heap.size w2).alloc (Nat.le_refl _) _).block g (by omega)))
       have HT4 := hid T4
       obtain ⟨-, x0, -, -, -, -, -, -, -, x8, x9, x10, x11, y0, y8, y9, y10, y11⟩ := T4
       clear hgrow hown))
  go_ret
  have hgs : w2.heap.size ≤ g2 := by
    rcases hat with h | h
    · have h' : some w2.heap.size = some g2 := h; injection h' with h'; omega
    · omega
  have hown := HO.out
  rw [HL.out, Nat.zero_add] at hown
  have hBZ : Bex g w w4 := (Bex.of hb2).trans (Bex.of (Below.grown ((Below.refl w2.heap.size w2).alloc (Nat.le_refl _) _) HG.out (by simp) (fun k hk => by have hk' : some w2.heap.size = some k := hk; injection hk' with hk'; omega)))
  have hfar : ∀ (w' : World) (o o' : Nat) (u : Value), (w'.setCell ⟨g, o, none⟩ u).cell? ⟨g2, o', none⟩ = w'.cell? ⟨g2, o', none⟩ := fun w' o o' u => World.cell?_of_block (Below.heap_setCell _ _ _ _ (by dsimp only; omega))
  refine ⟨rfl, g2, cap', (((HT4.out.path _).prog 0).aim 0 0).on false, by omega, by simpa [World.setCell] using hlt, own_cap hown, hid (fun i hi => ?_), ((((hBZ.set (Or.inr rfl) _).set (Or.inr rfl) _).set (Or.inr rfl) _).set (Or.inr rfl) _).set (Or.inr rfl) _⟩
  have k := HFG.out i hi
  simp only [hfar]
  exact ⟨(hown.cellAt (i * 2) (by omega)).trans k.1, (hown.cellAt (i * 2 + 1) (by omega)).trans k.2⟩
theorem rreplace_err (g : Nat) (a : Option Addr) (len cap : Nat) (X Y : Nat → Int) (hp : pchk len X Y ≠ 0) (w : World) (ha : Hid (Wants w a len X Y)) : Calls Try.prog 15 #[.pointer (some ⟨g, 0, none⟩), .slice a len cap] w fun e w' => e = .returned (.int .i64 (pchk len X Y)) ∧ Below w.heap.size w w' := by
  have HP := hid (fun w h => rpath_any a len cap X Y w h)
  have hp' : (pchk len X Y == 0) = false := by simpa using hp
  generalize pchk len X Y = E at *
  go_enter Try.func15, Try.ntmps15
  go_wp2_with (first | (go_at_call 26; (with_reducible refine (HP.out _ ha).mono ?_); rintro e w2 ⟨rfl, hb2⟩))
  go_ret
  exact ⟨rfl, hb2⟩
set_option maxHeartbeats 4000000 in
theorem rreplace_ok (g : Nat) (a : Option Addr) (len cap : Nat) (X Y : Nat → Int) {v : Value} {S A B H M ah tl pr ax ay : Int} {ai : Bool} (hp : pchk len X Y = 0) (w : World) (ha : Hid (Wants w a len X Y)) (T : Hid (Trk w g v S A B H M ah tl pr ax ay ai)) : Calls Try.prog 15 #[.pointer (some ⟨g, 0, none⟩), .slice a len cap] w fun e w' => e = .returned (.int .i64 0) ∧ ∃ g2 cap', Trk w' g (.slice (some ⟨g2, 0, none⟩) len cap') S A B H M ah tl 0 0 0 false ∧ w.heap.size ≤ g2 ∧ g2 < w'.heap.size ∧ len ≤ cap' ∧ Hid (∀ i, i < len → w'.cell? ⟨g2, i * 2, none⟩ = some (.int .i64 (X i)) ∧ w'.cell? ⟨g2, i * 2 + 1, none⟩ = some (.int .i64 (Y i))) ∧ Bex g w w' := by
  have hpp := pchk_zero hp
  obtain ⟨p1, p2, p3⟩ := hpp
  obtain ⟨b, off, rfl, hbw, hcell⟩ := ha.out p1
  have HCELL := hid hcell
  clear hcell
  obtain ⟨i0, hi, hz0, hz1, hz2⟩ := info_parts info34
  have hgl := T.out.lt
  have HP : Hid (∀ w, Hid (Wants w (some ⟨b, off, none⟩) len X Y) → Calls Try.prog 26 #[.slice (some ⟨b, off, none⟩) len cap] w fun e w' => e = .returned (.int .i64 0) ∧ Below w.heap.size w w') := hid (fun w h => by have := rpath_any (some ⟨b, off, none⟩) len cap X Y w h; rw [hp] at this; exact this)
  clear hp p3
  have HFG := hid (flatP_get X Y len)
  have HN : Hid (∀ w2, Below w.heap.size w w2 → ∀ (j : Nat) (u : Value), (flatP X Y len)[j]? = some u → (w2.alloc (.cells #[] 34)).cell? ((⟨b, off, none⟩ : Addr).add j) = some u) := hid (fun w2 hb2 => news_of (fun i hi => ⟨((hb2.alloc hb2.size _).cell hbw).trans (HCELL.out i hi).1, ((hb2.alloc hb2.size _).cell hbw).trans (HCELL.out i hi).2⟩))
  have HL : Hid (([] : List Value) ++ flatP X Y len = flatP X Y len) := hid (List.nil_append _)
  have HLN := hid (flatP_len X Y len)
  have HFO := hid (flatP_one X Y len)
  generalize flatP X Y len = news at *
  go_enter Try.func15, Try.ntmps15
  go_upto_region 4 with (first
    | (go_at_call 26; (with_reducible refine (HP.out _ ha).mono ?_); rintro e w2 ⟨rfl, hb2⟩))
  have hs2 := hb2.size
  go_wp2_with (first
    | (at_builtin; refine wpList_append_lies _ rfl _ _ 23 rfl w2.heap.size 34 i0 (.agg #[.int .i64 0, .int .i64 0]) 2 16 Try.underlying23 hi hz0 hz1 hz2 agg2_size (by decide) (.slice (some ⟨w2.heap.size, 0, none⟩) 0 0) 0 [] (by rfl) (own_empty w2) ⟨b, off, none⟩ len cap news (by rfl) HLN.out (HN.out w2 hb2) HFO.out p1 (by unfold maxLen; omega) (by omega) (by simp) (w2.heap.size + 1) (by simp) ?_
       intro g2 cap' w4 hown hgrow hat hlt
       have HG := hid hgrow
       have HO := hid hown
       have hw4 : w2.heap.size + 1 ≤ w4.heap.size := by have := hgrow.size; simpa using this
       have T4 := (T.out.below hb2).keep (w' := w4) (by omega) ((HG.out.block g (by simp; omega) (fun e => by have e' : some g = some w2.heap.size := e; injection e' with e'; omega)).trans (((Below.refl w2.heap.size w2).alloc (Nat.le_refl _) _).block g (by omega)))
       have HT4 := hid T4
       obtain ⟨-, x0, -, -, -, -, -, -, -, x8, x9, x10, x11, y0, y8, y9, y10, y11⟩ := T4
       clear hgrow hown))
  go_ret
  have hgs : w2.heap.size ≤ g2 := by
    rcases hat with h | h
    · have h' : some w2.heap.size = some g2 := h; injection h' with h'; omega
    · omega
  have hown := HO.out
  rw [HL.out, Nat.zero_add] at hown
  have hBZ : Bex g w w4 := (Bex.of hb2).trans (Bex.of (Below.grown ((Below.refl w2.heap.size w2).alloc (Nat.le_refl _) _) HG.out (by simp) (fun k hk => by have hk' : some w2.heap.size = some k := hk; injection hk' with hk'; omega)))
  have hfar : ∀ (w' : World) (o o' : Nat) (u : Value), (w'.setCell ⟨g, o, none⟩ u).cell? ⟨g2, o', none⟩ = w'.cell? ⟨g2, o', none⟩ := fun w' o o' u => World.cell?_of_block (Below.heap_setCell _ _ _ _ (by dsimp only; omega))
  refine ⟨rfl, g2, cap', (((HT4.out.path _).prog 0).aim 0 0).on false, by omega, by simpa [World.setCell] using hlt, own_cap hown, hid (fun i hi => ?_), ((((hBZ.set (Or.inr rfl) _).set (Or.inr rfl) _).set (Or.inr rfl) _).set (Or.inr rfl) _).set (Or.inr rfl) _⟩
  have k := HFG.out i hi
  simp only [hfar]
  exact ⟨(hown.cellAt (i * 2) (by omega)).trans k.1, (hown.cellAt (i * 2 + 1) (by omega)).trans k.2⟩
end Go.Proofs.Ytdcclpdnnhaeoaa
