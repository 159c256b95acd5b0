/- Walks: nobody is stale; the certain distance to all persons. -/
import Derived.Test.YtfcianhmfpenhaaXd
import Derived.Test.YtfcianhmfpenhaaQuiet
import Derived.Laws.OwnMore
namespace Go.Proofs.Ytfcianhmfpenhaa
open Go.RowKit Go.Maps
set_option linter.unusedVariables false
set_option linter.unusedSimpArgs false
/-- the keys in memory -/
def Ks (w : World) (a : Option Addr) (ss : List Int) : Prop := ∀ k, k < ss.length → ∃ g, a = some ⟨g, 0, none⟩ ∧ g < w.heap.size ∧ w.cell? ⟨g, k, none⟩ = some (.int .i64 (ss.getD k 0))
theorem getD_mem {ss : List Int} {k : Nat} (h : k < ss.length) : ss.getD k 0 ∈ ss := by
  rw [List.getD_eq_getElem?_getD, List.getElem?_eq_getElem h]
  exact List.getElem_mem h
theorem mem_getD {ss : List Int} {x : Int} (h : x ∈ ss) : ∃ k, k < ss.length ∧ ss.getD k 0 = x := by
  obtain ⟨k, hk, e⟩ := List.getElem_of_mem h
  exact ⟨k, hk, by rw [List.getD_eq_getElem?_getD, List.getElem?_eq_getElem hk]; exact e⟩
theorem list_ok {pb mb : Nat} {H kp : Int} {n : Nat} {f : Int → Option (Int × Int × Int)} (w : World) (P0 : Hid (Per w pb mb H kp n f)) (hn : n ≤ 1000) :
    Calls Try.prog 35 #[.pointer (some ⟨pb, 0, none⟩)] w fun e w' => ∃ (a : Option Addr) (ss : List Int) (cap : Nat), e = .returned (.slice a ss.length cap) ∧ Hid (Ks w' a ss) ∧ Hid (∀ x ∈ ss, wf64 x) ∧ Hid (∀ i, wf64 i → (i ∈ ss ↔ ∃ a x y, f i = some (a, x, y))) ∧ ss.length ≤ n ∧ Below w.heap.size w w' := by
  refine (list_any w P0 hn).mono ?_
  rintro e w' ⟨v, ss, rfl, hrow, h1, h2, h3, hb⟩
  rcases hrow.2 with ⟨rfl, hz⟩ | ⟨g, cap, cur, rfl, hbase, hh, r1, r2, r3, r4⟩
  · exact ⟨none, ss, 0, by rw [hz], hid (fun k hk => by omega), hid h1, hid h2, h3, hb⟩
  · refine ⟨some ⟨g, 0, none⟩, ss, cap, rfl, hid (fun k hk => ⟨g, rfl, (Array.getElem?_eq_some_iff.1 hh).1, ?_⟩), hid h1, hid h2, h3, hb⟩
    rw [hrow.cellAt k (by omega), List.getD_eq_getElem?_getD, List.getElem?_map, List.getElem?_eq_getElem hk]
    rfl
theorem age_zero (t x y : Int) (h3 : 0 ≤ t) (h4 : t ≤ 1099511627776) (w : World) : Calls Try.prog 36 #[pers t x y, .int .i64 t] w fun e w' => e = .returned (.int .i64 0) ∧ Below w.heap.size w w' :=
  (age_any t x y t h3 h4 h3 h4 w).mono fun e w' h => ⟨by rw [h.1]; exact ret_int (by omega), h.2⟩
/-- all persons have just been seen -/
def Now (t : Int) (X Y : Int → Int) (f : Int → Option (Int × Int × Int)) : Prop := ∀ i, f i = none ∨ (f i = some (t, X i, Y i) ∧ -1048576 ≤ X i ∧ X i ≤ 1048576 ∧ -1048576 ≤ Y i ∧ Y i ≤ 1048576)
theorem Now.of {t : Int} {X Y : Int → Int} {f : Int → Option (Int × Int × Int)} (h : Now t X Y f) {i : Int} (hs : ∃ a x y, f i = some (a, x, y)) : f i = some (t, X i, Y i) ∧ -1048576 ≤ X i ∧ X i ≤ 1048576 ∧ -1048576 ≤ Y i ∧ Y i ≤ 1048576 := by
  obtain ⟨a, x, y, e⟩ := hs
  rcases h i with h1 | h1
  · rw [h1] at e; cases e
  · exact h1
set_option maxRecDepth 100000 in
set_option maxHeartbeats 2000000 in
theorem stale_ok {pb mb : Nat} {H kp : Int} {n : Nat} {f : Int → Option (Int × Int × Int)} (t : Int) (X Y : Int → Int) (t1 : 0 ≤ t) (t2 : t ≤ 1099511627776) (hk : 0 ≤ kp) (w : World) (P0 : Hid (Per w pb mb H kp n f)) (hn : n ≤ 1000) (hN : Hid (Now t X Y f)) :
    Calls Try.prog 25 #[.pointer (some ⟨pb, 0, none⟩), .int .i64 t] w fun e w' => e = .returned (.slice none 0 0) ∧ Below w.heap.size w w' := by
  have plt := P0.out.lt
  have c1 := P0.out.c1
  have c2 := P0.out.c2
  have HL := hid (list_ok w P0 hn)
  have HV := hid (fun w => vt_ok t1 t2 w)
  go_enter Try.func25, Try.ntmps25
  go_upto_region 3 with (first | (go_at_call 35; (with_reducible refine HL.out.mono ?_); rintro e w2 ⟨a, ss, cap, rfl, hks, hwf, hmem, hlen, hb2⟩))
  have hs2 := hb2.size
  have hlI : (ss.length : Int) ≤ 1000 := by omega
  go_loopw [5, 11] (fun v i wr => ∃ k : Nat, v = .slice none 0 0 ∧ i = .int .i64 k ∧ k ≤ ss.length ∧ Below w2.heap.size w2 wr) (fun _ i _ => ss.length - (intOf i).toNat)
  case atStart => exact ⟨0, rfl, rfl, Nat.zero_le _, Below.refl _ _⟩
  case round =>
    obtain ⟨k, rfl, rfl, hk', hb⟩ := hrel
    by_cases hkT : k < ss.length
    · obtain ⟨g, rfl, hg, hcell⟩ := hks.out k hkT
      have hkI : (k : Int) < (ss.length : Int) := by omega
      have hkI0 : (0 : Int) ≤ (k : Int) := by omega
      have y0 : wr.cell? ⟨g, k, none⟩ = some (.int .i64 (ss.getD k 0)) := (hb.cell hg).trans hcell
      have hi := getD_mem hkT
      have hw := hwf.out _ hi
      obtain ⟨hf, x1, x2, y1, y2⟩ := hN.out.of ((hmem.out _ hw).1 hi)
      clear hcell hi
      generalize ss.getD k 0 = i at *
      have hbw : Below w.heap.size w wr := hb2.trans (hb.mono hs2)
      have hl0 : ∀ (z : Later wr) (o : Nat), z.val.cell? ⟨pb, o, none⟩ = w.cell? ⟨pb, o, none⟩ := fun z o => (z.cell (by have := hbw.size; omega)).trans (hbw.cell plt)
      have hl1 : ∀ (z : Later wr), (Instr.lookup 64 (.map (some mb)) (.int .i64 i) false).run Try.prog z.val = .ok (pers t (X i) (Y i)) z.val := fun z => (P0.out.below (hbw.trans (z.ok.mono (by have := hbw.size; omega)))).look hw hf
      go_upto_region 5 with fail
      refine wp_region_later (Below.refl _ _) (by kernel_rfl) (by kernel_rfl) ?_
      repeat (go_big_quiet_step ((first
        | (go_at_call 29; exact calls_later_same (HV.out _))
        | (go_at_call 36; exact calls_later (age_zero _ _ _ t1 t2 _)))))
      refine wpQuiet_nil ?_
      intro _ hw'
      obtain ⟨y0, hw''⟩ := hw'
      subst hw''
      clear hl0 hl1
      have hkp : ¬ kp < 0 := by omega
      go_wp2_with fail
      go_roundw
      case rel => exact ⟨k + 1, rfl, by go_num, by omega, hb.trans (y0.ok.mono hb.size)⟩
      case measure => simp [intOf]; omega
    · obtain rfl : k = ss.length := by omega
      go_wp2_with fail
      go_ret
      exact ⟨rfl, hb2.trans (hb.mono hs2)⟩
end Go.Proofs.Ytfcianhmfpenhaa
