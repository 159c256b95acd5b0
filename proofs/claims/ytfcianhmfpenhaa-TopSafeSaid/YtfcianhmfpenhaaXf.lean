/- Walks: the certain distance to all persons. -/
import Derived.Test.YtfcianhmfpenhaaXe
namespace Go.Proofs.Ytfcianhmfpenhaa
open Go.RowKit Go.Maps
set_option linter.unusedVariables false
set_option linter.unusedSimpArgs false
theorem size_none {w : World} {b : Nat} {D : DataW Unit} (h : w.ownsMap Try.prog 3 persR b 0 D) : Maps.size D = 0 := by have := h.size_le; omega
theorem size_some {D : DataW Unit} {k : Lit} (h : has D k = true) : 0 < Maps.size D := by
  cases D <;> try cases h
  rename_i es
  rw [has_eq] at h
  rw [size_eq]
  cases es with
  | nil => cases h
  | cons _ _ => simp
set_option maxRecDepth 100000 in
set_option maxHeartbeats 2000000 in
theorem gap_none {pb mb : Nat} {H kp : Int} {f : Int → Option (Int × Int × Int)} (t x y : Int) (w : World) (P0 : Hid (Per w pb mb H kp 0 f)) :
    Calls Try.prog 26 #[.pointer (some ⟨pb, 0, none⟩), .int .i64 t, pt x y] w fun e w' => e = .returned (.tuple #[.int .i64 0, .bool false]) ∧ Below w.heap.size w w' := by
  have plt := P0.out.lt
  have c2 := P0.out.c2
  obtain ⟨D, hown, hrep⟩ := P0.out.map
  have hs := size_none hown
  have hown1 := hown.alloc (.cells #[.int .i64 x, .int .i64 y] 35)
  have hln := hown1.len Try.underlying64 3
  rw [hs] at hln
  clear hown hown1 hrep
  go_enter Try.func26, Try.ntmps26
  go_wp2
  (try simp only [Exit.inBlock, Exit.then])
  refine bodyPost_ret (v := .tuple #[.int .i64 0, .bool false]) (by simp [results, Try.results26, go_sem]) rfl ?_
  exact ⟨rfl, by go_grown⟩
/-- the certain distance to a person who has just been seen -/
def gd (px py x y : Int) : Int := max 0 (isq (sqr (px - x) (py - y)) - 1)
/-- the least of the first k -/
def Least (ss : List Int) (d : Int → Int) (k : Nat) (g : Int) : Prop := (k = 0 → g = -1) ∧ (0 < k → 0 ≤ g ∧ (∀ j, j < k → g ≤ d (ss.getD j 0)) ∧ ∃ j, j < k ∧ g = d (ss.getD j 0))
theorem least_new {ss : List Int} {d : Int → Int} {k : Nat} {g : Int} (h : Least ss d k g) (hd : 0 ≤ d (ss.getD k 0)) (hc : g < 0 ∨ d (ss.getD k 0) < g) : Least ss d (k + 1) (d (ss.getD k 0)) := by
  refine ⟨fun h' => by omega, fun _ => ⟨hd, fun j hj => ?_, k, by omega, rfl⟩⟩
  by_cases e : j = k
  · subst e; exact Int.le_refl _
  · have hk : 0 < k := by omega
    have h1 := (h.2 hk).2.1 j (by omega)
    have h0 := (h.2 hk).1
    omega
theorem least_old {ss : List Int} {d : Int → Int} {k : Nat} {g : Int} (h : Least ss d k g) (h1 : 0 ≤ g) (h2 : g ≤ d (ss.getD k 0)) : Least ss d (k + 1) g := by
  have hk : 0 < k := by
    rcases Nat.eq_zero_or_pos k with e | e
    · have := h.1 e; omega
    · exact e
  obtain ⟨a1, a2, j0, a3, a4⟩ := h.2 hk
  refine ⟨fun h' => by omega, fun _ => ⟨h1, fun j hj => ?_, j0, by omega, a4⟩⟩
  by_cases e : j = k
  · subst e; exact h2
  · exact a2 j (by omega)
theorem gd_dist {px py x y : Int} (h1 : -1048576 ≤ px) (h2 : px ≤ 1048576) (h3 : -1048576 ≤ py) (h4 : py ≤ 1048576) (x1 : -1048576 ≤ x) (x2 : x ≤ 1048576) (y1 : -1048576 ≤ y) (y2 : y ≤ 1048576) : 0 ≤ isq (sqr (px - x) (py - y)) ∧ isq (sqr (px - x) (py - y)) ≤ 3037000499 := by
  refine isq_le ?_
  have := sqr_le (x := px - x) (y := py - y) (b := 2097152) (by omega) (by omega) (by omega) (by omega)
  omega
set_option maxRecDepth 100000 in
set_option maxHeartbeats 2000000 in
theorem gap_some {pb mb : Nat} {H kp : Int} {n : Nat} {f : Int → Option (Int × Int × Int)} (t px py : Int) (X Y : Int → Int) (t1 : 0 ≤ t) (t2 : t ≤ 1099511627776) (q1 : 0 ≤ H) (q2 : H ≤ 4096)
    (h1 : -1048576 ≤ px) (h2 : px ≤ 1048576) (h3 : -1048576 ≤ py) (h4 : py ≤ 1048576) (w : World) (P0 : Hid (Per w pb mb H kp n f)) (hn : n ≤ 1000) (hN : Hid (Now t X Y f)) (i0 : Int) (hi0 : wf64 i0) (hf0 : f i0 ≠ none) :
    Calls Try.prog 26 #[.pointer (some ⟨pb, 0, none⟩), .int .i64 t, pt px py] w fun e w' => ∃ g, e = .returned (.tuple #[.int .i64 g, .bool true]) ∧ 0 ≤ g ∧ g ≤ 3037000499 ∧ (∀ i, wf64 i → f i ≠ none → g ≤ gd px py (X i) (Y i)) ∧ (∃ i, wf64 i ∧ f i ≠ none ∧ g = gd px py (X i) (Y i)) ∧ Below w.heap.size w w' := by
  have plt := P0.out.lt
  have c0 := P0.out.c0
  have c2 := P0.out.c2
  obtain ⟨D, hown, hrep⟩ := P0.out.map
  obtain ⟨hf0', _⟩ := (hN.out i0).resolve_left hf0
  have hpos := size_some ((hrep.2 i0 hi0).2 _ _ _ hf0').1
  have hown1 := hown.alloc (.cells #[.int .i64 px, .int .i64 py] 35)
  have hln := hown1.len Try.underlying64 3
  have hsz := hown.size_le
  clear hown hown1 hrep
  have hsI : (((Maps.size D : Nat) : Int) == 0) = false := by simp; omega
  have hB1 : Below w.heap.size w (w.alloc (.cells #[.int .i64 px, .int .i64 py] 35)) := (Below.refl _ _).alloc (Nat.le_refl _) _
  have HL := hid (fun (w' : World) (hb : Below w.heap.size w w') => list_ok w' (hid (P0.out.below hb)) hn)
  have HV := hid (fun w => vt_ok t1 t2 w)
  have HI := hid (fun w => in_yes h1 h2 h3 h4 w)
  generalize hM : Maps.size D = m at *
  go_enter Try.func26, Try.ntmps26
  go_upto_region 5 with (first
    | (go_at_call 29; (with_reducible refine (HV.out _).mono ?_); rintro e w2 ⟨rfl, rfl⟩)
    | (go_at_call 30; (with_reducible refine (HI.out _).mono ?_); rintro e w2 ⟨rfl, hb⟩; obtain ⟨hc, hf⟩ := bcell hb))
  have hb2 : Below w.heap.size w w2 := below_box hb
  have hs1 := hb.size
  rw [szA] at hs1
  clear hln hc hf
  go_upto_region 7 with (first | (go_at_call 35; (with_reducible refine (HL.out _ hb2).mono ?_); rintro e w3 ⟨a, ss, cap, rfl, hks, hwf, hmem, hlen, hb3⟩))
  have hs3 := hb3.size
  have hlI : (ss.length : Int) ≤ 1000 := by omega
  have hb13 := hb.trans (hb3.mono hb.size)
  clear hb3 hB1 hb2 hb
  go_loopw [8, 34] (fun v i wr => ∃ (k : Nat) (g : Int), v = .int .i64 g ∧ i = .int .i64 k ∧ k ≤ ss.length ∧ -1 ≤ g ∧ g ≤ 3037000499 ∧ Hid (Least ss (fun i => gd px py (X i) (Y i)) k g) ∧ Below w3.heap.size w3 wr) (fun _ i _ => ss.length - (intOf i).toNat)
  case atStart => exact ⟨0, -1, rfl, rfl, Nat.zero_le _, by omega, by omega, hid ⟨fun _ => rfl, fun h => by omega⟩, Below.refl _ _⟩
  case round =>
    obtain ⟨k, g, rfl, rfl, hk', g1, g2, HLe, hbr⟩ := hrel
    have hb1r := hb13.trans (hbr.mono (by rw [szA]; omega))
    have hbw : Below w.heap.size w wr := below_box hb1r
    have hsr := hb1r.size
    rw [szA] at hsr
    by_cases hkT : k < ss.length
    · obtain ⟨ga, rfl, hg, hcell⟩ := hks.out k hkT
      have hkI : (k : Int) < (ss.length : Int) := by omega
      have hkI0 : (0 : Int) ≤ (k : Int) := by omega
      have z0 : wr.cell? ⟨ga, k, none⟩ = some (.int .i64 (ss.getD k 0)) := (hbr.cell hg).trans hcell
      have hi := getD_mem hkT
      have hw := hwf.out _ hi
      obtain ⟨hf, x1, x2, y1, y2⟩ := hN.out.of ((hmem.out _ hw).1 hi)
      have HLn := hid (fun hd hc => least_new HLe.out hd hc)
      have HLo := hid (fun ha hc => least_old HLe.out ha hc)
      clear hcell hi HLe
      generalize hI : ss.getD k 0 = i at *
      clear hI
      have hlk := (P0.out.below hbw).look hw hf
      have l0 : wr.cell? ⟨pb, 0, none⟩ = some (.int .i64 H) := (hbw.cell plt).trans c0
      have l2 : wr.cell? ⟨pb, 2, none⟩ = some (.map (some mb)) := (hbw.cell plt).trans c2
      obtain ⟨d1, d2⟩ := gd_dist h1 h2 h3 h4 x1 x2 y1 y2
      go_upto_region 10 with fail
      have HA := hid (fun w => age_zero t (X i) (Y i) t1 t2 w)
      have HD := hid (fun w => dist_any px py (X i) (Y i) (by omega) (by omega) (by omega) (by omega) (by omega) (by omega) (by omega) (by omega) w)
      obtain ⟨dd, hdd⟩ : ∃ dd, isq (sqr (px - X i) (py - Y i)) = dd := ⟨_, rfl⟩
      rw [hdd] at HD d1 d2
      have HG := hid (show gd px py (X i) (Y i) = max 0 (dd - 1) from by unfold gd; rw [hdd])
      clear hdd
      generalize hW : wr.alloc (.cells #[.int .i64 t, .int .i64 (X i), .int .i64 (Y i)] 68) = W at *
      have hBW : Below wr.heap.size wr W := by rw [← hW]; exact (Below.refl _ _).alloc (Nat.le_refl _) _
      have hsW : W.heap.size = wr.heap.size + 1 := by rw [← hW]; simp
      have HC := hid (fun o => (show W.cell? ⟨wr.heap.size, o, none⟩ = (wr.alloc (.cells #[.int .i64 t, .int .i64 (X i), .int .i64 (Y i)] 68)).cell? ⟨wr.heap.size, o, none⟩ from by rw [← hW]))
      clear hW hlk l0 l2 z0
      have hl0 : ∀ (z : Later W) (o : Nat), z.val.cell? ⟨pb, o, none⟩ = w.cell? ⟨pb, o, none⟩ := fun z o => ((z.cell (by omega)).trans (hBW.cell (by show pb < wr.heap.size; omega))).trans (hbw.cell plt)
      have hl1 : ∀ (z : Later W) (o : Nat), z.val.cell? ⟨w.heap.size, o, none⟩ = (w.alloc (.cells #[.int .i64 px, .int .i64 py] 35)).cell? ⟨w.heap.size, o, none⟩ := fun z o => ((z.cell (by omega)).trans (hBW.cell (by show w.heap.size < wr.heap.size; omega))).trans (hb1r.cell (by show w.heap.size < _; simp))
      have hl2 : ∀ (z : Later W) (o : Nat), z.val.cell? ⟨wr.heap.size, o, none⟩ = (wr.alloc (.cells #[.int .i64 t, .int .i64 (X i), .int .i64 (Y i)] 68)).cell? ⟨wr.heap.size, o, none⟩ := fun z o => (z.cell (by omega)).trans (HC.out o)
      refine wp_region_later (Below.refl _ _) (by kernel_rfl) (by kernel_rfl) ?_
      repeat (go_big_quiet_step ((first
        | (go_at_call 37; exact calls_later (HD.out _))
        | (go_at_call 36; exact calls_later (HA.out _)))))
      refine wpQuiet_nil ?_
      intro _ hw'
      obtain ⟨y0, hw''⟩ := hw'
      subst hw''
      have hrel2 : Below w3.heap.size w3 y0.val := hbr.trans ((hBW.trans (y0.ok.mono (by omega))).mono (by have := hbr.size; omega))
      clear hl0 hl1 hl2
      by_cases hc : g < 0
      · go_wp2_with fail
        go_roundw
        case rel => exact ⟨k + 1, max 0 (dd - 1), rfl, by go_num, by omega, by omega, by omega, hid (by have := HLn.out (by show 0 ≤ gd px py (X i) (Y i); rw [HG.out]; omega) (Or.inl hc); rw [← HG.out]; exact this), hrel2⟩
        case measure => simp [intOf]; omega
      · have hc0 : 0 ≤ g := by omega
        by_cases hc2 : max 0 (dd - 1) < g
        · go_wp2_with fail
          go_roundw
          case rel => exact ⟨k + 1, max 0 (dd - 1), rfl, by go_num, by omega, by omega, by omega, hid (by have := HLn.out (by show 0 ≤ gd px py (X i) (Y i); rw [HG.out]; omega) (Or.inr (by show gd px py (X i) (Y i) < g; rw [HG.out]; exact hc2)); rw [← HG.out]; exact this), hrel2⟩
          case measure => simp [intOf]; omega
        · go_wp2_with fail
          go_roundw
          case rel => exact ⟨k + 1, g, rfl, by go_num, by omega, by omega, by omega, hid (HLo.out hc0 (by show g ≤ gd px py (X i) (Y i); rw [HG.out]; omega)), hrel2⟩
          case measure => simp [intOf]; omega
    · obtain rfl : k = ss.length := by omega
      go_wp2_with fail
      (try simp only [Exit.inBlock, Exit.then])
      refine bodyPost_ret (v := .tuple #[.int .i64 g, .bool true]) (by simp [results, Try.results26, go_sem]) rfl ?_
      have hpos2 : 0 < ss.length := by
        obtain ⟨j, hj, _⟩ := mem_getD ((hmem.out i0 hi0).2 ⟨_, _, _, hf0'⟩)
        omega
      obtain ⟨r1, r2, j0, r3, r4⟩ := HLe.out.2 hpos2
      refine ⟨g, rfl, r1, g2, fun i hi hfi => ?_, ⟨_, hwf.out _ (getD_mem r3), ?_, r4⟩, hbw⟩
      · obtain ⟨hfi', _⟩ := (hN.out i).resolve_left hfi
        obtain ⟨j, hj, e⟩ := mem_getD ((hmem.out i hi).2 ⟨_, _, _, hfi'⟩)
        have := r2 j hj
        rw [e] at this
        exact this
      · obtain ⟨aa, bb, cc, e⟩ := (hmem.out _ (hwf.out _ (getD_mem r3))).1 (getD_mem r3)
        rw [e]
        simp
end Go.Proofs.Ytfcianhmfpenhaa
