/- Walks: the ceiling of a supervisor. -/
import Derived.Test.YtfcianhmfpenhaaXf
namespace Go.Proofs.Ytfcianhmfpenhaa
open Go.RowKit Go.Maps
set_option linter.unusedVariables false
set_option linter.unusedSimpArgs false
/-- the least of the certain distances -/
def IsGap (f : Int → Option (Int × Int × Int)) (d : Int → Int) (g : Int) : Prop := (∀ i, wf64 i → f i ≠ none → g ≤ d i) ∧ ∃ i, wf64 i ∧ f i ≠ none ∧ g = d i
theorem IsGap.one {f : Int → Option (Int × Int × Int)} {d : Int → Int} {g g' : Int} (h : IsGap f d g) (h' : IsGap f d g') : g = g' := by
  obtain ⟨a1, i, a2, a3, a4⟩ := h
  obtain ⟨b1, j, b2, b3, b4⟩ := h'
  have := a1 j b2 b3
  have := b1 i a2 a3
  omega
theorem least_of {P : Int → Prop} {d : Int → Int} (hd : ∀ i, 0 ≤ d i) : ∀ (m : Nat), (∃ i, P i ∧ (d i).toNat ≤ m) → ∃ i, P i ∧ ∀ j, P j → d i ≤ d j
  | 0, ⟨i, h1, h2⟩ => ⟨i, h1, fun j hj => by have := hd j; omega⟩
  | m + 1, ⟨i, h1, h2⟩ => by
    by_cases h : ∃ j, P j ∧ d j < d i
    · obtain ⟨j, hj, hlt⟩ := h
      exact least_of hd m ⟨j, hj, by have := hd j; omega⟩
    · refine ⟨i, h1, fun j hj => ?_⟩
      rcases Int.lt_or_le (d j) (d i) with h' | h'
      · exact absurd ⟨j, hj, h'⟩ h
      · exact h'
theorem IsGap.ex {f : Int → Option (Int × Int × Int)} {d : Int → Int} (hd : ∀ i, 0 ≤ d i) {i0 : Int} (hi0 : wf64 i0) (hf0 : f i0 ≠ none) : ∃ g, IsGap f d g := by
  obtain ⟨i, ⟨h1, h2⟩, h3⟩ := least_of (P := fun i => wf64 i ∧ f i ≠ none) hd (d i0).toNat ⟨i0, ⟨hi0, hf0⟩, Nat.le_refl _⟩
  exact ⟨d i, fun j hj hf => h3 j ⟨hj, hf⟩, i, h1, h2, rfl⟩
theorem gd_nonneg (px py x y : Int) : 0 ≤ gd px py x y := by unfold gd; omega
theorem gap_fix {pb mb : Nat} {H kp : Int} {n : Nat} {f : Int → Option (Int × Int × Int)} (t px py : Int) (X Y : Int → Int) (t1 : 0 ≤ t) (t2 : t ≤ 1099511627776) (q1 : 0 ≤ H) (q2 : H ≤ 4096)
    (h1 : -1048576 ≤ px) (h2 : px ≤ 1048576) (h3 : -1048576 ≤ py) (h4 : py ≤ 1048576) (w : World) (P0 : Hid (Per w pb mb H kp n f)) (hn : n ≤ 1000) (hN : Hid (Now t X Y f)) (g : Int) (hg : IsGap f (fun i => gd px py (X i) (Y i)) g) :
    Calls Try.prog 26 #[.pointer (some ⟨pb, 0, none⟩), .int .i64 t, pt px py] w fun e w' => e = .returned (.tuple #[.int .i64 g, .bool true]) ∧ Below w.heap.size w w' := by
  obtain ⟨i0, a1, a2, _⟩ := hg.2
  refine (gap_some t px py X Y t1 t2 q1 q2 h1 h2 h3 h4 w P0 hn hN i0 a1 a2).mono ?_
  rintro e w' ⟨g', rfl, _, _, b1, b2, hb⟩
  have : g' = g := IsGap.one (f := f) (d := fun i => gd px py (X i) (Y i)) ⟨b1, b2⟩ hg
  rw [this]
  exact ⟨rfl, hb⟩
set_option maxRecDepth 100000 in
set_option maxHeartbeats 2000000 in
theorem ceil_dem {sb pb : Nat} {S A B H M kp al md : Int} (t x y : Int) (t1 : 0 ≤ t) (t2 : t ≤ 1099511627776) (hd : demB md = true) (w : World) (S0 : Hid (Sup w sb pb S A B H M kp al md)) :
    Calls Try.prog 16 #[.pointer (some ⟨sb, 0, none⟩), .int .i64 t, pt x y] w fun e w' => e = .returned (.int .i64 0) ∧ Below w.heap.size w w' := by
  have slt := S0.out.lt
  have c8 := S0.out.c8
  have HT := hid (fun w => tk_ok t1 t2 w)
  go_enter Try.func16, Try.ntmps16
  go_upto_region 1 with fail
  have HD : Hid (∀ (z : Later (w.alloc (.cells #[.int .i64 x, .int .i64 y] 35))), Calls Try.prog 24 #[.pointer (some ⟨sb, 0, none⟩)] z.val fun e w' => e = .returned (.bool true) ∧ z.val = w') := hid (fun z => by
    have := dem_any (sb := sb) (md := md) z.val ((z.cell (by simp; omega)).trans ((World.cell?_alloc_lt _ _ _ slt).trans c8))
    rw [hd] at this
    exact this)
  refine wp_region_later (Below.refl _ _) (by kernel_rfl) (by kernel_rfl) ?_
  repeat (go_big_quiet_step ((first
    | (go_at_call 20; exact calls_later_same (HT.out _))
    | (go_at_call 24; exact calls_later_same (HD.out _)))))
  refine wpQuiet_nil ?_
  intro _ hw'
  obtain ⟨y0, hw''⟩ := hw'
  subst hw''
  go_wp2_with fail
  go_ret
  exact ⟨rfl, ((Below.refl _ _).alloc (Nat.le_refl _) _).trans (y0.ok.mono (by simp))⟩
set_option maxRecDepth 100000 in
set_option maxHeartbeats 2000000 in
theorem ceil_none {sb pb mb : Nat} {S A B H M kp al md : Int} {f : Int → Option (Int × Int × Int)} (t x y : Int) (X Y : Int → Int) (t1 : 0 ≤ t) (t2 : t ≤ 1099511627776) (hk : 0 ≤ kp) (hal : 0 ≤ al) (hal2 : al ≤ t) (hal3 : t - al ≤ kp) (hd : demB md = false) (w : World) (S0 : Hid (Sup w sb pb S A B H M kp al md)) (hn : 0 ≤ 1000) (P0 : Hid (Per w pb mb H kp 0 f)) (hN : Hid (Now t X Y f)) :
    Calls Try.prog 16 #[.pointer (some ⟨sb, 0, none⟩), .int .i64 t, pt x y] w fun e w' => e = .returned (.int .i64 S) ∧ Below w.heap.size w w' := by
  have slt := S0.out.lt
  have plt := P0.out.lt
  have HS0 := S0.out
  obtain ⟨_, c0, c1, c2, c3, c4, c5, c6, c7, c8, _, _⟩ := HS0
  have HT := hid (fun w => tk_ok t1 t2 w)
  go_enter Try.func16, Try.ntmps16
  go_upto_region 1 with fail
  have HD : Hid (∀ (z : Later (w.alloc (.cells #[.int .i64 x, .int .i64 y] 35))), Calls Try.prog 24 #[.pointer (some ⟨sb, 0, none⟩)] z.val fun e w' => e = .returned (.bool false) ∧ z.val = w') := hid (fun z => by
    have := dem_any (sb := sb) (md := md) z.val ((z.cell (by simp; omega)).trans ((World.cell?_alloc_lt _ _ _ slt).trans c8))
    rw [hd] at this
    exact this)
  have HB : Hid (∀ (z : Later (w.alloc (.cells #[.int .i64 x, .int .i64 y] 35))), Below w.heap.size w z.val) := hid (fun z => ((Below.refl _ _).alloc (Nat.le_refl _) _).trans (z.ok.mono (by simp)))
  have HST : Hid (∀ (z : Later (w.alloc (.cells #[.int .i64 x, .int .i64 y] 35))), Calls Try.prog 25 #[.pointer (some ⟨pb, 0, none⟩), .int .i64 t] z.val fun e w' => e = .returned (.slice none 0 0) ∧ Below z.val.heap.size z.val w') := hid (fun z => stale_ok t X Y t1 t2 hk z.val (hid (P0.out.below (HB.out z))) hn hN)
  have hl0 : ∀ (z : Later (w.alloc (.cells #[.int .i64 x, .int .i64 y] 35))) (o : Nat), z.val.cell? ⟨sb, o, none⟩ = w.cell? ⟨sb, o, none⟩ := fun z o => (z.cell (by simp; omega)).trans (World.cell?_alloc_lt _ _ _ slt)
  have hg : decide (kp < t - al) = false := by simp; omega
  refine wp_region_later (Below.refl _ _) (by kernel_rfl) (by kernel_rfl) ?_
  repeat (go_big_quiet_step ((first
    | (go_at_call 20; exact calls_later_same (HT.out _))
    | (go_at_call 24; exact calls_later_same (HD.out _))
    | (go_at_call 25; exact calls_later (HST.out _)))))
  refine wpQuiet_nil ?_
  intro _ hw'
  obtain ⟨y0, hw''⟩ := hw'
  subst hw''
  clear hl0 HD HST
  have hB0 := HB.out y0
  have HBx := hid (fun o => y0.ok.cell (p := ⟨w.heap.size, o, none⟩) (by simp))
  go_upto_region 3 with fail
  have hsy := hB0.size
  have HG : Hid (∀ (z : Later y0.val), Calls Try.prog 26 #[.pointer (some ⟨pb, 0, none⟩), .int .i64 t, pt x y] z.val fun e w' => e = .returned (.tuple #[.int .i64 0, .bool false]) ∧ Below z.val.heap.size z.val w') := hid (fun z => gap_none t x y z.val (hid (P0.out.below (hB0.trans (z.ok.mono hsy)))))
  have hl0 : ∀ (z : Later y0.val) (o : Nat), z.val.cell? ⟨sb, o, none⟩ = w.cell? ⟨sb, o, none⟩ := fun z o => (z.cell (by omega)).trans (hB0.cell slt)
  have hl1 : ∀ (z : Later y0.val) (o : Nat), z.val.cell? ⟨w.heap.size, o, none⟩ = (w.alloc (.cells #[.int .i64 x, .int .i64 y] 35)).cell? ⟨w.heap.size, o, none⟩ := fun z o => (z.cell (by have := y0.ok.size; simp at this; omega)).trans (HBx.out o)
  refine wp_region_later (Below.refl _ _) (by kernel_rfl) (by kernel_rfl) ?_
  repeat (go_big_quiet_step ((go_at_call 26; exact calls_later (HG.out _))))
  refine wpQuiet_nil ?_
  intro _ hw'
  obtain ⟨y1, hw''⟩ := hw'
  subst hw''
  clear hl0 hl1
  have hB1 := hB0.trans (y1.ok.mono hsy)
  have c0' := (hB1.cell (p := ⟨sb, 0, none⟩) slt).trans c0
  go_wp2_with fail
  go_ret
  exact ⟨rfl, hB1⟩
set_option maxRecDepth 100000 in
set_option maxHeartbeats 2000000 in
theorem ceil_some {sb pb mb : Nat} {S A B H M kp al md : Int} {n : Nat} {f : Int → Option (Int × Int × Int)} (t x y : Int) (X Y : Int → Int) (t1 : 0 ≤ t) (t2 : t ≤ 1099511627776) (hk : 0 ≤ kp) (hal : 0 ≤ al) (hal2 : al ≤ t) (hal3 : t - al ≤ kp) (hd : demB md = false) (h1 : -1048576 ≤ x) (h2 : x ≤ 1048576) (h3 : -1048576 ≤ y) (h4 : y ≤ 1048576) (q1 : 0 ≤ H) (q2 : H ≤ 4096) (w : World) (S0 : Hid (Sup w sb pb S A B H M kp al md)) (hn : n ≤ 1000) (P0 : Hid (Per w pb mb H kp n f)) (hN : Hid (Now t X Y f)) (g : Int) (hgap : Hid (IsGap f (fun i => gd x y (X i) (Y i)) g)) :
    Calls Try.prog 16 #[.pointer (some ⟨sb, 0, none⟩), .int .i64 t, pt x y] w fun e w' => e = .returned (.int .i64 (max 0 (Bk.allowF g S A B H M))) ∧ Below w.heap.size w w' := by
  have slt := S0.out.lt
  have plt := P0.out.lt
  have HS0 := S0.out
  obtain ⟨_, c0, c1, c2, c3, c4, c5, c6, c7, c8, _, _⟩ := HS0
  have HT := hid (fun w => tk_ok t1 t2 w)
  go_enter Try.func16, Try.ntmps16
  go_upto_region 1 with fail
  have HD : Hid (∀ (z : Later (w.alloc (.cells #[.int .i64 x, .int .i64 y] 35))), Calls Try.prog 24 #[.pointer (some ⟨sb, 0, none⟩)] z.val fun e w' => e = .returned (.bool false) ∧ z.val = w') := hid (fun z => by
    have := dem_any (sb := sb) (md := md) z.val ((z.cell (by simp; omega)).trans ((World.cell?_alloc_lt _ _ _ slt).trans c8))
    rw [hd] at this
    exact this)
  have HB : Hid (∀ (z : Later (w.alloc (.cells #[.int .i64 x, .int .i64 y] 35))), Below w.heap.size w z.val) := hid (fun z => ((Below.refl _ _).alloc (Nat.le_refl _) _).trans (z.ok.mono (by simp)))
  have HST : Hid (∀ (z : Later (w.alloc (.cells #[.int .i64 x, .int .i64 y] 35))), Calls Try.prog 25 #[.pointer (some ⟨pb, 0, none⟩), .int .i64 t] z.val fun e w' => e = .returned (.slice none 0 0) ∧ Below z.val.heap.size z.val w') := hid (fun z => stale_ok t X Y t1 t2 hk z.val (hid (P0.out.below (HB.out z))) hn hN)
  have hl0 : ∀ (z : Later (w.alloc (.cells #[.int .i64 x, .int .i64 y] 35))) (o : Nat), z.val.cell? ⟨sb, o, none⟩ = w.cell? ⟨sb, o, none⟩ := fun z o => (z.cell (by simp; omega)).trans (World.cell?_alloc_lt _ _ _ slt)
  have hg : decide (kp < t - al) = false := by simp; omega
  refine wp_region_later (Below.refl _ _) (by kernel_rfl) (by kernel_rfl) ?_
  repeat (go_big_quiet_step ((first
    | (go_at_call 20; exact calls_later_same (HT.out _))
    | (go_at_call 24; exact calls_later_same (HD.out _))
    | (go_at_call 25; exact calls_later (HST.out _)))))
  refine wpQuiet_nil ?_
  intro _ hw'
  obtain ⟨y0, hw''⟩ := hw'
  subst hw''
  clear hl0 HD HST
  have hB0 := HB.out y0
  have HBx := hid (fun o => y0.ok.cell (p := ⟨w.heap.size, o, none⟩) (by simp))
  go_upto_region 3 with fail
  have hsy := hB0.size
  have HG : Hid (∀ (z : Later y0.val), Calls Try.prog 26 #[.pointer (some ⟨pb, 0, none⟩), .int .i64 t, pt x y] z.val fun e w' => e = .returned (.tuple #[.int .i64 g, .bool true]) ∧ Below z.val.heap.size z.val w') := hid (fun z => gap_fix t x y X Y t1 t2 q1 q2 h1 h2 h3 h4 z.val (hid (P0.out.below (hB0.trans (z.ok.mono hsy)))) hn hN g hgap.out)
  have hl0 : ∀ (z : Later y0.val) (o : Nat), z.val.cell? ⟨sb, o, none⟩ = w.cell? ⟨sb, o, none⟩ := fun z o => (z.cell (by omega)).trans (hB0.cell slt)
  have hl1 : ∀ (z : Later y0.val) (o : Nat), z.val.cell? ⟨w.heap.size, o, none⟩ = (w.alloc (.cells #[.int .i64 x, .int .i64 y] 35)).cell? ⟨w.heap.size, o, none⟩ := fun z o => (z.cell (by have := y0.ok.size; simp at this; omega)).trans (HBx.out o)
  refine wp_region_later (Below.refl _ _) (by kernel_rfl) (by kernel_rfl) ?_
  repeat (go_big_quiet_step ((go_at_call 26; exact calls_later (HG.out _))))
  refine wpQuiet_nil ?_
  intro _ hw'
  obtain ⟨y1, hw''⟩ := hw'
  subst hw''
  clear hl0 hl1
  have hB1 := hB0.trans (y1.ok.mono hsy)
  have c0' := (hB1.cell (p := ⟨sb, 0, none⟩) slt).trans c0
  have c1' := (hB1.cell (p := ⟨sb, 1, none⟩) slt).trans c1
  have c2' := (hB1.cell (p := ⟨sb, 2, none⟩) slt).trans c2
  have c3' := (hB1.cell (p := ⟨sb, 3, none⟩) slt).trans c3
  have c4' := (hB1.cell (p := ⟨sb, 4, none⟩) slt).trans c4
  go_wp2_with (first | (go_at_call 27; (with_reducible refine (Bk.allow_any _ _ _ _ _ _ _).mono ?_); rintro e w3 ⟨rfl, hb3⟩))
  go_ret
  exact ⟨rfl, hB1.trans (hb3.mono hB1.size)⟩
end Go.Proofs.Ytfcianhmfpenhaa
