/- Walks: Run and Stop, the reference's. -/
import Derived.Test.YthfpdlkeagoamaaWm
namespace Go.Proofs.Ythfpdlkeagoamaa
open Go.RowKit
set_option linter.unusedVariables false
theorem set4_far {w : World} {g b : Nat} (h : b ≠ g) (j : Nat) {u0 u1 u2 u3 : Value} : ((((w.setCell ⟨g, 0, none⟩ u0).setCell ⟨g, 1, none⟩ u1).setCell ⟨g, 2, none⟩ u2).setCell ⟨g, 3, none⟩ u3).cell? ⟨b, j, none⟩ = w.cell? ⟨b, j, none⟩ :=
  World.cell?_of_block (by rw [Below.heap_setCell _ _ _ _ h, Below.heap_setCell _ _ _ _ h, Below.heap_setCell _ _ _ _ h, Below.heap_setCell _ _ _ _ h])
set_option maxHeartbeats 4000000 in
theorem rrun_yes (m0 : Mo) (a : Option Addr) (len cap : Nat) (X Y : Nat → Int) (S A B H M : Int) (hlen : len ≤ 60) (h : m0.ok S A B H M) (w : World) (ha : Hid (Wants w a len X Y)) :
    Calls Try.prog 24 #[mo m0.px m0.py m0.vx m0.vy, .slice a len cap, lim S A B H M] w fun e w' => ∃ v, e = .returned v ∧ w'.ownsRow (w.heap.size + 1 + 1) 25 4 v len (flat (runL S A X Y len m0)) ∧ Below w.heap.size w w' := by
  have HV := hid (rvalid_of h)
  obtain ⟨i0, hi, hz0, hz1, hz2⟩ := info_parts info25
  have HO := hid h
  clear h
  have hlen' : (len : Int) ≤ 60 := by omega
  go_enter Try.func24, Try.ntmps24
  go_wp2_with (first | (go_at_call 13; (with_reducible refine (HV.out _).mono ?_); rintro e w2 ⟨rfl, hb⟩; obtain ⟨hc, hf⟩ := bcell hb; have hz : w.heap.size + 1 < w2.heap.size := (by have := hb.size; simp at this; omega)))
  clear HV
  go_loopw [7, 8] (fun s7 s8 wr => ∃ (k : Nat) (m : Mo), s8 = .int .i64 k ∧ k ≤ len ∧ Hid (m = rit S A X Y k m0) ∧ w.heap.size + 1 < wr.heap.size ∧ wr.cell? ⟨w.heap.size, 0, none⟩ = some (.int .i64 m.px) ∧ wr.cell? ⟨w.heap.size, 1, none⟩ = some (.int .i64 m.py) ∧ wr.cell? ⟨w.heap.size, 2, none⟩ = some (.int .i64 m.vx) ∧ wr.cell? ⟨w.heap.size, 3, none⟩ = some (.int .i64 m.vy) ∧ wr.frozen? ⟨w.heap.size, 0, none⟩ = false ∧ wr.frozen? ⟨w.heap.size, 1, none⟩ = false ∧ wr.frozen? ⟨w.heap.size, 2, none⟩ = false ∧ wr.frozen? ⟨w.heap.size, 3, none⟩ = false ∧ wr.cell? ⟨w.heap.size + 1, 0, none⟩ = some (.int .i64 S) ∧ wr.cell? ⟨w.heap.size + 1, 1, none⟩ = some (.int .i64 A) ∧ wr.cell? ⟨w.heap.size + 1, 2, none⟩ = some (.int .i64 B) ∧ wr.cell? ⟨w.heap.size + 1, 3, none⟩ = some (.int .i64 H) ∧ wr.cell? ⟨w.heap.size + 1, 4, none⟩ = some (.int .i64 M) ∧ Hid (s7.ownBlock ≠ some w.heap.size) ∧ wr.ownsRow (w.heap.size + 1 + 1) 25 4 s7 k (flat (runL S A X Y k m0)) ∧ Below w.heap.size w wr) (fun _ s8 _ => len - (intOf s8).toNat)
  case atStart =>
    exact ⟨0, m0, rfl, Nat.zero_le _, hid rfl, hz, (hc _ _ (by simp <;> omega)).trans (by simp [go_sem]), (hc _ _ (by simp <;> omega)).trans (by simp [go_sem]), (hc _ _ (by simp <;> omega)).trans (by simp [go_sem]), (hc _ _ (by simp <;> omega)).trans (by simp [go_sem]), (hf _ _ (by simp <;> omega)).trans (by simp [go_sem]), (hf _ _ (by simp <;> omega)).trans (by simp [go_sem]), (hf _ _ (by simp <;> omega)).trans (by simp [go_sem]), (hf _ _ (by simp <;> omega)).trans (by simp [go_sem]), (hc _ _ (by simp <;> omega)).trans (by simp [go_sem]), (hc _ _ (by simp <;> omega)).trans (by simp [go_sem]), (hc _ _ (by simp <;> omega)).trans (by simp [go_sem]), (hc _ _ (by simp <;> omega)).trans (by simp [go_sem]), (hc _ _ (by simp <;> omega)).trans (by simp [go_sem]), hid (by intro h; cases h), ⟨rfl, .inl ⟨rfl, rfl⟩⟩, box2 hb⟩
  case round =>
    clear hb hc hf hz
    obtain ⟨k, m, rfl, hk, HM, hz, c0, c1, c2, c3, f0, f1, f2, f3, l0, l1, l2, l3, l4, HNB, hown, hb⟩ := hrel
    by_cases hkT : k < len
    · obtain ⟨b, off, rfl, hbw, hcell⟩ := ha.out (by omega)
      obtain ⟨x0, x1⟩ := hcell k hkT
      clear hcell
      have hkI : (k : Int) < (len : Int) := by omega
      have hkI0 : (0 : Int) ≤ (k : Int) := by omega
      have hmk : m.ok S A B H M := by rw [HM.out]; exact rit_ok HO.out X Y k
      have HB := hid (fun w => rstep_mo m hmk (X k) (Y k) w)
      have HNM : Hid (st1 S A (X k) (Y k) m = rit S A X Y (k + 1) m0) := hid (by rw [HM.out]; rfl)
      clear hmk
      generalize st1 S A (X k) (Y k) m = nx at *
      go_upto_region 7 with fail
      have rm0 : ∀ (z : Later wr), z.val.cell? ⟨w.heap.size, 0, none⟩ = some (.int .i64 m.px) := fun z => (z.cell (by omega)).trans c0
      have rm1 : ∀ (z : Later wr), z.val.cell? ⟨w.heap.size, 1, none⟩ = some (.int .i64 m.py) := fun z => (z.cell (by omega)).trans c1
      have rm2 : ∀ (z : Later wr), z.val.cell? ⟨w.heap.size, 2, none⟩ = some (.int .i64 m.vx) := fun z => (z.cell (by omega)).trans c2
      have rm3 : ∀ (z : Later wr), z.val.cell? ⟨w.heap.size, 3, none⟩ = some (.int .i64 m.vy) := fun z => (z.cell (by omega)).trans c3
      have rl0 : ∀ (z : Later wr), z.val.cell? ⟨w.heap.size + 1, 0, none⟩ = some (.int .i64 S) := fun z => (z.cell (by omega)).trans l0
      have rl1 : ∀ (z : Later wr), z.val.cell? ⟨w.heap.size + 1, 1, none⟩ = some (.int .i64 A) := fun z => (z.cell (by omega)).trans l1
      have rl2 : ∀ (z : Later wr), z.val.cell? ⟨w.heap.size + 1, 2, none⟩ = some (.int .i64 B) := fun z => (z.cell (by omega)).trans l2
      have rl3 : ∀ (z : Later wr), z.val.cell? ⟨w.heap.size + 1, 3, none⟩ = some (.int .i64 H) := fun z => (z.cell (by omega)).trans l3
      have rl4 : ∀ (z : Later wr), z.val.cell? ⟨w.heap.size + 1, 4, none⟩ = some (.int .i64 M) := fun z => (z.cell (by omega)).trans l4
      have ry0 : ∀ (z : Later wr), z.val.cell? ⟨b, off + k * 2, none⟩ = some (.int .i64 (X k)) := fun z => (z.cell (by omega)).trans ((hb.cell hbw).trans x0)
      have ry1 : ∀ (z : Later wr), z.val.cell? ⟨b, off + k * 2 + 1, none⟩ = some (.int .i64 (Y k)) := fun z => (z.cell (by omega)).trans ((hb.cell hbw).trans x1)
      have hff : ∀ (z : Later wr) (j : Nat), z.val.frozen? ⟨w.heap.size, j, none⟩ = wr.frozen? ⟨w.heap.size, j, none⟩ := fun z j => z.frz (by omega)
      clear c0 c1 c2 c3 l0 l1 l2 l3 l4 x0 x1
      refine wp_region_later_tail (w0 := wr) 7 (Below.refl _ _) (by kernel_rfl) (by kernel_rfl) ?_
      simp only [List.take_succ_cons, List.take_zero, List.drop_succ_cons, List.drop_zero]
      repeat (go_big_quiet_step ((go_at_call 17; with_reducible exact calls_later (HB.out _))))
      refine wpQuiet_nil ?_
      intro _ hw'
      obtain ⟨y0, hw''⟩ := hw'
      subst hw''
      have hs3 := y0.size
      have hown3 := own_below hown y0.ok
      have y0c := rm0 y0
      have y1c := rm1 y0
      have y2c := rm2 y0
      have y3c := rm3 y0
      have g0 := (hff y0 0).trans f0
      have g1 := (hff y0 1).trans f1
      have g2 := (hff y0 2).trans f2
      have g3 := (hff y0 3).trans f3
      obtain ⟨p0, p1, p2, p3⟩ := set4_cells y0c y1c y2c y3c (.int .i64 nx.px) (.int .i64 nx.py) (.int .i64 nx.vx) (.int .i64 nx.vy)
      have HP := hid (And.intro p0 (And.intro p1 (And.intro p2 p3)))
      clear p0 p1 p2 p3
      go_upto_region 8 with fail
      go_wp2_with (at_builtin; refine wpList_append_own_at _ rfl _ _ 39 rfl (w.heap.size + 1 + 1) 25 i0 (.agg #[.int .i64 0, .int .i64 0, .int .i64 0, .int .i64 0]) 4 32 Try.underlying39 hi hz0 hz1 hz2 agg4_size (by decide) u7 k (flat (runL S A X Y k m0)) rfl ((own_set4 hown3 HNB.out _ _ _ _).alloc _) ⟨y0.val.heap.size, 0, none⟩ 1 1 [.int .i64 nx.px, .int .i64 nx.py, .int .i64 nx.vx, .int .i64 nx.vy] rfl rfl (cells4_new (set4_size _ _ _ _ _ _) _ _ _ _ _) (one4 _ _ _ _) (by unfold maxLen; omega) (by omega) (by rw [alloc_size, set4_size]; omega) ?_
                   intro v' w4 hown4 hgrow4 _ hat4; have HG := hid hgrow4; have hfar := grown_far HG.out (by rw [set4_size]; omega) HNB.out; have d0 := (hfar 0).trans HP.out.1; have d1 := (hfar 1).trans HP.out.2.1; have d2 := (hfar 2).trans HP.out.2.2.1; have d3 := (hfar 3).trans HP.out.2.2.2; have hff := grown_frz HG.out (by rw [set4_size]; omega) HNB.out; have HD := hid (And.intro d0 (And.intro d1 (And.intro d2 d3))); have HF := hid (And.intro ((hff 0).trans (set4_frz g0)) (And.intro ((hff 1).trans (set4_frz g1)) (And.intro ((hff 2).trans (set4_frz g2)) ((hff 3).trans (set4_frz g3))))); have e0 : w4.cell? ⟨w.heap.size + 1, 0, none⟩ = some (.int .i64 S) := (grown_far HG.out (by rw [set4_size]; omega) (fun h => absurd (hown3.lt _ h).1 (by omega)) 0).trans ((set4_far (by omega) _).trans (rl0 y0)); have e1 : w4.cell? ⟨w.heap.size + 1, 1, none⟩ = some (.int .i64 A) := (grown_far HG.out (by rw [set4_size]; omega) (fun h => absurd (hown3.lt _ h).1 (by omega)) 1).trans ((set4_far (by omega) _).trans (rl1 y0)); have e2 : w4.cell? ⟨w.heap.size + 1, 2, none⟩ = some (.int .i64 B) := (grown_far HG.out (by rw [set4_size]; omega) (fun h => absurd (hown3.lt _ h).1 (by omega)) 2).trans ((set4_far (by omega) _).trans (rl2 y0)); have e3 : w4.cell? ⟨w.heap.size + 1, 3, none⟩ = some (.int .i64 H) := (grown_far HG.out (by rw [set4_size]; omega) (fun h => absurd (hown3.lt _ h).1 (by omega)) 3).trans ((set4_far (by omega) _).trans (rl3 y0)); have e4 : w4.cell? ⟨w.heap.size + 1, 4, none⟩ = some (.int .i64 M) := (grown_far HG.out (by rw [set4_size]; omega) (fun h => absurd (hown3.lt _ h).1 (by omega)) 4).trans ((set4_far (by omega) _).trans (rl4 y0));  clear d0 d1 d2 d3 hfar hff hgrow4 y0c y1c y2c y3c g0 g1 g2 g3 HP)
      have HL := hid (And.intro e0 (And.intro e1 (And.intro e2 (And.intro e3 e4))))
      clear e0 e1 e2 e3 e4
      go_roundw
      case rel =>
        refine ⟨k + 1, nx, by go_num, by omega, HNM, by have := HG.out.size; rw [alloc_size, set4_size] at this; omega, HD.out.1, HD.out.2.1, HD.out.2.2.1, HD.out.2.2.2, HF.out.1, HF.out.2.1, HF.out.2.2.1, HF.out.2.2.2, HL.out.1, HL.out.2.1, HL.out.2.2.1, HL.out.2.2.2.1, HL.out.2.2.2.2, hid (fun h => absurd (hown4.lt _ h).1 (by omega)), ?_, ?_⟩
        · rw [runL_succ, flat_snoc, ← HNM.out]; exact hown4
        · exact below_round0 (hb.trans (y0.ok.mono hb.size)) (Nat.le_refl _) HG.out (fun k hk => by have := (hown.lt k hk).1; omega)
      case measure => simp [intOf]; omega
    · obtain rfl : k = len := by omega
      go_wp2_with fail
      go_ret
      exact ⟨_, rfl, hown, hb⟩
theorem rbrake_of (m : Mo) {S A B H M : Int} (h : m.ok S A B H M) (w : World) : Calls Try.prog 19 #[mo m.px m.py m.vx m.vy, lim S A B H M] w fun e w' => e = .returned (pt (brk1 B m).vx (brk1 B m).vy) ∧ Below w.heap.size w w' := by
  have := rbrake_any m.px m.py m.vx m.vy S A B H M w
  have e : vld m.px m.py m.vx m.vy S A B H M = true := h
  rw [show brX m.px m.py m.vx m.vy S A B H M = (brk1 B m).vx from by unfold brX; rw [e]; rfl, show brY m.px m.py m.vx m.vy S A B H M = (brk1 B m).vy from by unfold brY; rw [e]; rfl] at this
  exact this
theorem rtick_of (m : Mo) {S A B H M : Int} (h : m.ok S A B H M) (w : World) : Calls Try.prog 38 #[mo m.px m.py m.vx m.vy, pt (brk1 B m).vx (brk1 B m).vy] w fun e w' => e = .returned (mo (brk1 B m).px (brk1 B m).py (brk1 B m).vx (brk1 B m).vy) ∧ Below w.heap.size w w' := by
  obtain ⟨_, p1, p2, p3, p4, _⟩ := vld_true h
  have v := vld_abs h
  have v2 := vld_abs (brk1_ok h)
  exact rtick_any m.px m.py m.vx m.vy (brk1 B m).vx (brk1 B m).vy p1 p2 p3 p4 (by omega) (by omega) (by omega) (by omega) w
set_option maxHeartbeats 4000000 in
theorem rstop_yes (m0 : Mo) (S A B H M : Int) (h : m0.ok S A B H M) (w : World) :
    Calls Try.prog 25 #[mo m0.px m0.py m0.vx m0.vy, lim S A B H M] w fun e w' => ∃ v, e = .returned v ∧ w'.ownsRow (w.heap.size + 1 + 1) 25 4 v (stopL B 4097 m0).length (flat (stopL B 4097 m0)) ∧ Below w.heap.size w w' := by
  have HV := hid (rvalid_of h)
  obtain ⟨i0, hi, hz0, hz1, hz2⟩ := info_parts info25
  have HO := hid h
  have hl := ok_len h
  obtain ⟨_, _, hs3, _⟩ := ok_sqr h
  clear h
  go_enter Try.func25, Try.ntmps25
  go_wp2_with (first | (go_at_call 13; (with_reducible refine (HV.out _).mono ?_); rintro e w2 ⟨rfl, hb⟩; obtain ⟨hc, hf⟩ := bcell hb; have hz : w.heap.size + 1 < w2.heap.size := (by have := hb.size; simp at this; omega)))
  clear HV
  go_loopw [5, 6] (fun s5 s6 wr => ∃ (L : List Mo) (m : Mo), s6 = .int .i64 L.length ∧ Hid (m.ok S A B H M) ∧ Hid (L ++ stopL B (4097 - L.length) m = stopL B 4097 m0) ∧ (L.length : Int) + m.len ≤ S ∧ w.heap.size + 1 < wr.heap.size ∧ wr.cell? ⟨w.heap.size, 0, none⟩ = some (.int .i64 m.px) ∧ wr.cell? ⟨w.heap.size, 1, none⟩ = some (.int .i64 m.py) ∧ wr.cell? ⟨w.heap.size, 2, none⟩ = some (.int .i64 m.vx) ∧ wr.cell? ⟨w.heap.size, 3, none⟩ = some (.int .i64 m.vy) ∧ wr.frozen? ⟨w.heap.size, 0, none⟩ = false ∧ wr.frozen? ⟨w.heap.size, 1, none⟩ = false ∧ wr.frozen? ⟨w.heap.size, 2, none⟩ = false ∧ wr.frozen? ⟨w.heap.size, 3, none⟩ = false ∧ wr.cell? ⟨w.heap.size + 1, 0, none⟩ = some (.int .i64 S) ∧ wr.cell? ⟨w.heap.size + 1, 1, none⟩ = some (.int .i64 A) ∧ wr.cell? ⟨w.heap.size + 1, 2, none⟩ = some (.int .i64 B) ∧ wr.cell? ⟨w.heap.size + 1, 3, none⟩ = some (.int .i64 H) ∧ wr.cell? ⟨w.heap.size + 1, 4, none⟩ = some (.int .i64 M) ∧ Hid (s5.ownBlock ≠ some w.heap.size) ∧ wr.ownsRow (w.heap.size + 1 + 1) 25 4 s5 L.length (flat L) ∧ Below w.heap.size w wr) (fun _ s6 _ => (S + 1 - intOf s6).toNat)
  case atStart =>
    exact ⟨[], m0, rfl, HO, hid rfl, by simpa using hl.2, hz, (hc _ _ (by simp <;> omega)).trans (by simp [go_sem]), (hc _ _ (by simp <;> omega)).trans (by simp [go_sem]), (hc _ _ (by simp <;> omega)).trans (by simp [go_sem]), (hc _ _ (by simp <;> omega)).trans (by simp [go_sem]), (hf _ _ (by simp <;> omega)).trans (by simp [go_sem]), (hf _ _ (by simp <;> omega)).trans (by simp [go_sem]), (hf _ _ (by simp <;> omega)).trans (by simp [go_sem]), (hf _ _ (by simp <;> omega)).trans (by simp [go_sem]), (hc _ _ (by simp <;> omega)).trans (by simp [go_sem]), (hc _ _ (by simp <;> omega)).trans (by simp [go_sem]), (hc _ _ (by simp <;> omega)).trans (by simp [go_sem]), (hc _ _ (by simp <;> omega)).trans (by simp [go_sem]), (hc _ _ (by simp <;> omega)).trans (by simp [go_sem]), hid (by intro h; cases h), ⟨rfl, .inl ⟨rfl, rfl⟩⟩, box2 hb⟩
  case round =>
    clear hb hc hf hz
    obtain ⟨L, m, rfl, HM, HL0, hLm, hz, c0, c1, c2, c3, f0, f1, f2, f3, l0, l1, l2, l3, l4, HNB, hown, hb⟩ := hrel
    have hm0 := ok_len HM.out
    have hkS : (L.length : Int) ≤ S := by omega
    have CS : ((m.vx != 0) = true ∧ (m.vx != 0) = true) ∨ ((m.vx != 0) = false ∧ (m.vy != 0) = true) ∨ ((m.vx != 0) = false ∧ (m.vy != 0) = false) := by
      by_cases h : m.vx = 0 <;> by_cases h' : m.vy = 0 <;> simp [h, h']
    rcases CS with ⟨x1, _⟩ | ⟨x1, x2⟩ | ⟨x1, x2⟩
    · have hne : ¬ (m.vx = 0 ∧ m.vy = 0) := by
        rintro ⟨hh, _⟩
        rw [hh] at x1; exact absurd x1 (by decide)
      have hlt := brk1_lt HM.out hne
      have h0 := (ok_len (brk1_ok HM.out)).1
      have HNE := hid hne
      have hmk := HM.out
      have HB := hid (fun w => rbrake_of m hmk w)
      have HT := hid (fun w => rtick_of m hmk w)
      have HNX : Hid (brk1 B m = brk1 B m) := hid rfl
      have HOK := hid (brk1_ok hmk)
      have HGO : Hid (L ++ [brk1 B m] ++ stopL B (4097 - (L.length + 1)) (brk1 B m) = stopL B 4097 m0) := hid (by
        rw [← HL0.out, List.append_assoc, show 4097 - L.length = (4097 - (L.length + 1)) + 1 from by omega, stopL_go hne]; rfl)
      clear hmk hne HNX
      generalize brk1 B m = nx at *
      go_upto_region 7 with fail
      have rm0 : ∀ (z : Later wr), z.val.cell? ⟨w.heap.size, 0, none⟩ = some (.int .i64 m.px) := fun z => (z.cell (by omega)).trans c0
      have rm1 : ∀ (z : Later wr), z.val.cell? ⟨w.heap.size, 1, none⟩ = some (.int .i64 m.py) := fun z => (z.cell (by omega)).trans c1
      have rm2 : ∀ (z : Later wr), z.val.cell? ⟨w.heap.size, 2, none⟩ = some (.int .i64 m.vx) := fun z => (z.cell (by omega)).trans c2
      have rm3 : ∀ (z : Later wr), z.val.cell? ⟨w.heap.size, 3, none⟩ = some (.int .i64 m.vy) := fun z => (z.cell (by omega)).trans c3
      have rl0 : ∀ (z : Later wr), z.val.cell? ⟨w.heap.size + 1, 0, none⟩ = some (.int .i64 S) := fun z => (z.cell (by omega)).trans l0
      have rl1 : ∀ (z : Later wr), z.val.cell? ⟨w.heap.size + 1, 1, none⟩ = some (.int .i64 A) := fun z => (z.cell (by omega)).trans l1
      have rl2 : ∀ (z : Later wr), z.val.cell? ⟨w.heap.size + 1, 2, none⟩ = some (.int .i64 B) := fun z => (z.cell (by omega)).trans l2
      have rl3 : ∀ (z : Later wr), z.val.cell? ⟨w.heap.size + 1, 3, none⟩ = some (.int .i64 H) := fun z => (z.cell (by omega)).trans l3
      have rl4 : ∀ (z : Later wr), z.val.cell? ⟨w.heap.size + 1, 4, none⟩ = some (.int .i64 M) := fun z => (z.cell (by omega)).trans l4
      have hff : ∀ (z : Later wr) (j : Nat), z.val.frozen? ⟨w.heap.size, j, none⟩ = wr.frozen? ⟨w.heap.size, j, none⟩ := fun z j => z.frz (by omega)
      clear c0 c1 c2 c3 l0 l1 l2 l3 l4
      refine wp_region_later_tail (w0 := wr) 5 (Below.refl _ _) (by kernel_rfl) (by kernel_rfl) ?_
      simp only [List.take_succ_cons, List.take_zero, List.drop_succ_cons, List.drop_zero]
      repeat (go_big_quiet_step ((first | (go_at_call 19; with_reducible exact calls_later (HB.out _)) | (go_at_call 38; with_reducible exact calls_later (HT.out _)))))
      refine wpQuiet_nil ?_
      intro _ hw'
      obtain ⟨y0, hw''⟩ := hw'
      subst hw''
      have hs3 := y0.size
      have hown3 := own_below hown y0.ok
      have y0c := rm0 y0
      have y1c := rm1 y0
      have y2c := rm2 y0
      have y3c := rm3 y0
      have g0 := (hff y0 0).trans f0
      have g1 := (hff y0 1).trans f1
      have g2 := (hff y0 2).trans f2
      have g3 := (hff y0 3).trans f3
      obtain ⟨p0, p1, p2, p3⟩ := set4_cells y0c y1c y2c y3c (.int .i64 nx.px) (.int .i64 nx.py) (.int .i64 nx.vx) (.int .i64 nx.vy)
      have HP := hid (And.intro p0 (And.intro p1 (And.intro p2 p3)))
      clear p0 p1 p2 p3
      go_upto_region 8 with fail
      go_wp2_with (at_builtin; refine wpList_append_own_at _ rfl _ _ 39 rfl (w.heap.size + 1 + 1) 25 i0 (.agg #[.int .i64 0, .int .i64 0, .int .i64 0, .int .i64 0]) 4 32 Try.underlying39 hi hz0 hz1 hz2 agg4_size (by decide) u5 L.length (flat L) rfl ((own_set4 hown3 HNB.out _ _ _ _).alloc _) ⟨y0.val.heap.size, 0, none⟩ 1 1 [.int .i64 nx.px, .int .i64 nx.py, .int .i64 nx.vx, .int .i64 nx.vy] rfl rfl (cells4_new (set4_size _ _ _ _ _ _) _ _ _ _ _) (one4 _ _ _ _) (by unfold maxLen; omega) (by omega) (by rw [alloc_size, set4_size]; omega) ?_
                   intro v' w4 hown4 hgrow4 _ hat4; have HG := hid hgrow4; have hfar := grown_far HG.out (by rw [set4_size]; omega) HNB.out; have d0 := (hfar 0).trans HP.out.1; have d1 := (hfar 1).trans HP.out.2.1; have d2 := (hfar 2).trans HP.out.2.2.1; have d3 := (hfar 3).trans HP.out.2.2.2; have hff := grown_frz HG.out (by rw [set4_size]; omega) HNB.out; have HD := hid (And.intro d0 (And.intro d1 (And.intro d2 d3))); have HF := hid (And.intro ((hff 0).trans (set4_frz g0)) (And.intro ((hff 1).trans (set4_frz g1)) (And.intro ((hff 2).trans (set4_frz g2)) ((hff 3).trans (set4_frz g3))))); have e0 : w4.cell? ⟨w.heap.size + 1, 0, none⟩ = some (.int .i64 S) := (grown_far HG.out (by rw [set4_size]; omega) (fun h => absurd (hown3.lt _ h).1 (by omega)) 0).trans ((set4_far (by omega) _).trans (rl0 y0)); have e1 : w4.cell? ⟨w.heap.size + 1, 1, none⟩ = some (.int .i64 A) := (grown_far HG.out (by rw [set4_size]; omega) (fun h => absurd (hown3.lt _ h).1 (by omega)) 1).trans ((set4_far (by omega) _).trans (rl1 y0)); have e2 : w4.cell? ⟨w.heap.size + 1, 2, none⟩ = some (.int .i64 B) := (grown_far HG.out (by rw [set4_size]; omega) (fun h => absurd (hown3.lt _ h).1 (by omega)) 2).trans ((set4_far (by omega) _).trans (rl2 y0)); have e3 : w4.cell? ⟨w.heap.size + 1, 3, none⟩ = some (.int .i64 H) := (grown_far HG.out (by rw [set4_size]; omega) (fun h => absurd (hown3.lt _ h).1 (by omega)) 3).trans ((set4_far (by omega) _).trans (rl3 y0)); have e4 : w4.cell? ⟨w.heap.size + 1, 4, none⟩ = some (.int .i64 M) := (grown_far HG.out (by rw [set4_size]; omega) (fun h => absurd (hown3.lt _ h).1 (by omega)) 4).trans ((set4_far (by omega) _).trans (rl4 y0));  clear d0 d1 d2 d3 hfar hff hgrow4 y0c y1c y2c y3c g0 g1 g2 g3 HP)
      have HL := hid (And.intro e0 (And.intro e1 (And.intro e2 (And.intro e3 e4))))
      clear e0 e1 e2 e3 e4
      go_roundw
      case rel =>
        refine ⟨L ++ [nx], nx, by rw [List.length_append, List.length_singleton]; go_num, HOK, hid (by rw [List.length_append, List.length_singleton]; exact HGO.out), by rw [List.length_append, List.length_singleton]; push_cast; omega, by have := HG.out.size; rw [alloc_size, set4_size] at this; omega, HD.out.1, HD.out.2.1, HD.out.2.2.1, HD.out.2.2.2, HF.out.1, HF.out.2.1, HF.out.2.2.1, HF.out.2.2.2, HL.out.1, HL.out.2.1, HL.out.2.2.1, HL.out.2.2.2.1, HL.out.2.2.2.2, hid (fun h => absurd (hown4.lt _ h).1 (by omega)), ?_, ?_⟩
        · rw [flat_snoc, List.length_append, List.length_singleton]; exact hown4
        · exact below_round0 (hb.trans (y0.ok.mono hb.size)) (Nat.le_refl _) HG.out (fun k hk => by have := (hown.lt k hk).1; omega)
      case measure => simp [intOf]; omega
    · have hne : ¬ (m.vx = 0 ∧ m.vy = 0) := by
        rintro ⟨_, hh⟩
        rw [hh] at x2; exact absurd x2 (by decide)
      have hlt := brk1_lt HM.out hne
      have h0 := (ok_len (brk1_ok HM.out)).1
      have HNE := hid hne
      have hmk := HM.out
      have HB := hid (fun w => rbrake_of m hmk w)
      have HT := hid (fun w => rtick_of m hmk w)
      have HNX : Hid (brk1 B m = brk1 B m) := hid rfl
      have HOK := hid (brk1_ok hmk)
      have HGO : Hid (L ++ [brk1 B m] ++ stopL B (4097 - (L.length + 1)) (brk1 B m) = stopL B 4097 m0) := hid (by
        rw [← HL0.out, List.append_assoc, show 4097 - L.length = (4097 - (L.length + 1)) + 1 from by omega, stopL_go hne]; rfl)
      clear hmk hne HNX
      generalize brk1 B m = nx at *
      go_upto_region 7 with fail
      have rm0 : ∀ (z : Later wr), z.val.cell? ⟨w.heap.size, 0, none⟩ = some (.int .i64 m.px) := fun z => (z.cell (by omega)).trans c0
      have rm1 : ∀ (z : Later wr), z.val.cell? ⟨w.heap.size, 1, none⟩ = some (.int .i64 m.py) := fun z => (z.cell (by omega)).trans c1
      have rm2 : ∀ (z : Later wr), z.val.cell? ⟨w.heap.size, 2, none⟩ = some (.int .i64 m.vx) := fun z => (z.cell (by omega)).trans c2
      have rm3 : ∀ (z : Later wr), z.val.cell? ⟨w.heap.size, 3, none⟩ = some (.int .i64 m.vy) := fun z => (z.cell (by omega)).trans c3
      have rl0 : ∀ (z : Later wr), z.val.cell? ⟨w.heap.size + 1, 0, none⟩ = some (.int .i64 S) := fun z => (z.cell (by omega)).trans l0
      have rl1 : ∀ (z : Later wr), z.val.cell? ⟨w.heap.size + 1, 1, none⟩ = some (.int .i64 A) := fun z => (z.cell (by omega)).trans l1
      have rl2 : ∀ (z : Later wr), z.val.cell? ⟨w.heap.size + 1, 2, none⟩ = some (.int .i64 B) := fun z => (z.cell (by omega)).trans l2
      have rl3 : ∀ (z : Later wr), z.val.cell? ⟨w.heap.size + 1, 3, none⟩ = some (.int .i64 H) := fun z => (z.cell (by omega)).trans l3
      have rl4 : ∀ (z : Later wr), z.val.cell? ⟨w.heap.size + 1, 4, none⟩ = some (.int .i64 M) := fun z => (z.cell (by omega)).trans l4
      have hff : ∀ (z : Later wr) (j : Nat), z.val.frozen? ⟨w.heap.size, j, none⟩ = wr.frozen? ⟨w.heap.size, j, none⟩ := fun z j => z.frz (by omega)
      clear c0 c1 c2 c3 l0 l1 l2 l3 l4
      refine wp_region_later_tail (w0 := wr) 5 (Below.refl _ _) (by kernel_rfl) (by kernel_rfl) ?_
      simp only [List.take_succ_cons, List.take_zero, List.drop_succ_cons, List.drop_zero]
      repeat (go_big_quiet_step ((first | (go_at_call 19; with_reducible exact calls_later (HB.out _)) | (go_at_call 38; with_reducible exact calls_later (HT.out _)))))
      refine wpQuiet_nil ?_
      intro _ hw'
      obtain ⟨y0, hw''⟩ := hw'
      subst hw''
      have hs3 := y0.size
      have hown3 := own_below hown y0.ok
      have y0c := rm0 y0
      have y1c := rm1 y0
      have y2c := rm2 y0
      have y3c := rm3 y0
      have g0 := (hff y0 0).trans f0
      have g1 := (hff y0 1).trans f1
      have g2 := (hff y0 2).trans f2
      have g3 := (hff y0 3).trans f3
      obtain ⟨p0, p1, p2, p3⟩ := set4_cells y0c y1c y2c y3c (.int .i64 nx.px) (.int .i64 nx.py) (.int .i64 nx.vx) (.int .i64 nx.vy)
      have HP := hid (And.intro p0 (And.intro p1 (And.intro p2 p3)))
      clear p0 p1 p2 p3
      go_upto_region 8 with fail
      go_wp2_with (at_builtin; refine wpList_append_own_at _ rfl _ _ 39 rfl (w.heap.size + 1 + 1) 25 i0 (.agg #[.int .i64 0, .int .i64 0, .int .i64 0, .int .i64 0]) 4 32 Try.underlying39 hi hz0 hz1 hz2 agg4_size (by decide) u5 L.length (flat L) rfl ((own_set4 hown3 HNB.out _ _ _ _).alloc _) ⟨y0.val.heap.size, 0, none⟩ 1 1 [.int .i64 nx.px, .int .i64 nx.py, .int .i64 nx.vx, .int .i64 nx.vy] rfl rfl (cells4_new (set4_size _ _ _ _ _ _) _ _ _ _ _) (one4 _ _ _ _) (by unfold maxLen; omega) (by omega) (by rw [alloc_size, set4_size]; omega) ?_
                   intro v' w4 hown4 hgrow4 _ hat4; have HG := hid hgrow4; have hfar := grown_far HG.out (by rw [set4_size]; omega) HNB.out; have d0 := (hfar 0).trans HP.out.1; have d1 := (hfar 1).trans HP.out.2.1; have d2 := (hfar 2).trans HP.out.2.2.1; have d3 := (hfar 3).trans HP.out.2.2.2; have hff := grown_frz HG.out (by rw [set4_size]; omega) HNB.out; have HD := hid (And.intro d0 (And.intro d1 (And.intro d2 d3))); have HF := hid (And.intro ((hff 0).trans (set4_frz g0)) (And.intro ((hff 1).trans (set4_frz g1)) (And.intro ((hff 2).trans (set4_frz g2)) ((hff 3).trans (set4_frz g3))))); have e0 : w4.cell? ⟨w.heap.size + 1, 0, none⟩ = some (.int .i64 S) := (grown_far HG.out (by rw [set4_size]; omega) (fun h => absurd (hown3.lt _ h).1 (by omega)) 0).trans ((set4_far (by omega) _).trans (rl0 y0)); have e1 : w4.cell? ⟨w.heap.size + 1, 1, none⟩ = some (.int .i64 A) := (grown_far HG.out (by rw [set4_size]; omega) (fun h => absurd (hown3.lt _ h).1 (by omega)) 1).trans ((set4_far (by omega) _).trans (rl1 y0)); have e2 : w4.cell? ⟨w.heap.size + 1, 2, none⟩ = some (.int .i64 B) := (grown_far HG.out (by rw [set4_size]; omega) (fun h => absurd (hown3.lt _ h).1 (by omega)) 2).trans ((set4_far (by omega) _).trans (rl2 y0)); have e3 : w4.cell? ⟨w.heap.size + 1, 3, none⟩ = some (.int .i64 H) := (grown_far HG.out (by rw [set4_size]; omega) (fun h => absurd (hown3.lt _ h).1 (by omega)) 3).trans ((set4_far (by omega) _).trans (rl3 y0)); have e4 : w4.cell? ⟨w.heap.size + 1, 4, none⟩ = some (.int .i64 M) := (grown_far HG.out (by rw [set4_size]; omega) (fun h => absurd (hown3.lt _ h).1 (by omega)) 4).trans ((set4_far (by omega) _).trans (rl4 y0));  clear d0 d1 d2 d3 hfar hff hgrow4 y0c y1c y2c y3c g0 g1 g2 g3 HP)
      have HL := hid (And.intro e0 (And.intro e1 (And.intro e2 (And.intro e3 e4))))
      clear e0 e1 e2 e3 e4
      go_roundw
      case rel =>
        refine ⟨L ++ [nx], nx, by rw [List.length_append, List.length_singleton]; go_num, HOK, hid (by rw [List.length_append, List.length_singleton]; exact HGO.out), by rw [List.length_append, List.length_singleton]; push_cast; omega, by have := HG.out.size; rw [alloc_size, set4_size] at this; omega, HD.out.1, HD.out.2.1, HD.out.2.2.1, HD.out.2.2.2, HF.out.1, HF.out.2.1, HF.out.2.2.1, HF.out.2.2.2, HL.out.1, HL.out.2.1, HL.out.2.2.1, HL.out.2.2.2.1, HL.out.2.2.2.2, hid (fun h => absurd (hown4.lt _ h).1 (by omega)), ?_, ?_⟩
        · rw [flat_snoc, List.length_append, List.length_singleton]; exact hown4
        · exact below_round0 (hb.trans (y0.ok.mono hb.size)) (Nat.le_refl _) HG.out (fun k hk => by have := (hown.lt k hk).1; omega)
      case measure => simp [intOf]; omega
    · have he : flat L = flat (stopL B 4097 m0) ∧ L.length = (stopL B 4097 m0).length := by
        rw [← HL0.out, stopL_end (by simpa using x1) (by simpa using x2), List.append_nil]
        exact ⟨rfl, rfl⟩
      have HE := hid he
      clear he
      go_wp2_with fail
      go_ret
      exact ⟨_, rfl, by rw [← HE.out.1, ← HE.out.2]; exact hown, hb⟩
end Go.Proofs.Ythfpdlkeagoamaa
