/- Walks: Same; Run and Stop, as lists. -/
import Derived.Test.YthfpdlkeagoamaaWn
namespace Go.Proofs.Ythfpdlkeagoamaa
open Go.RowKit
set_option linter.unusedVariables false
theorem flat_get : ∀ (L : List Mo) (i : Nat) (m : Mo), L[i]? = some m → (flat L)[i * 4]? = some (.int .i64 m.px) ∧ (flat L)[i * 4 + 1]? = some (.int .i64 m.py) ∧ (flat L)[i * 4 + 2]? = some (.int .i64 m.vx) ∧ (flat L)[i * 4 + 3]? = some (.int .i64 m.vy)
  | [], _, _, h => by simp at h
  | a :: L, 0, m, h => by
    simp at h
    subst h
    simp [flat, Mo.cells]
  | a :: L, i + 1, m, h => by
    have := flat_get L i m (by simpa using h)
    have e : flat (a :: L) = a.cells ++ flat L := by simp [flat]
    rw [e, show (i + 1) * 4 = i * 4 + 4 from by omega]
    have el : a.cells.length = 4 := rfl
    refine ⟨?_, ?_, ?_, ?_⟩
    · rw [List.getElem?_append_right (by omega), el, show i * 4 + 4 - 4 = i * 4 from by omega]; exact this.1
    · rw [List.getElem?_append_right (by omega), el, show i * 4 + 4 + 1 - 4 = i * 4 + 1 from by omega]; exact this.2.1
    · rw [List.getElem?_append_right (by omega), el, show i * 4 + 4 + 2 - 4 = i * 4 + 2 from by omega]; exact this.2.2.1
    · rw [List.getElem?_append_right (by omega), el, show i * 4 + 4 + 3 - 4 = i * 4 + 3 from by omega]; exact this.2.2.2
/-- a slice that reads as n motions -/
def Rd (w : World) (v : Value) (n : Nat) (F : Nat → Mo) : Prop := ∃ a cap, v = .slice a n cap ∧ (0 < n → ∃ g, a = some ⟨g, 0, none⟩ ∧ g < w.heap.size ∧ ∀ i, i < n → w.cell? ⟨g, i * 4, none⟩ = some (.int .i64 (F i).px) ∧ w.cell? ⟨g, i * 4 + 1, none⟩ = some (.int .i64 (F i).py) ∧ w.cell? ⟨g, i * 4 + 2, none⟩ = some (.int .i64 (F i).vx) ∧ w.cell? ⟨g, i * 4 + 3, none⟩ = some (.int .i64 (F i).vy))
theorem rd_below {w w' : World} {v : Value} {n : Nat} {F : Nat → Mo} (h : Rd w v n F) (hb : Below w.heap.size w w') : Rd w' v n F := by
  obtain ⟨a, cap, h1, h2⟩ := h
  refine ⟨a, cap, h1, fun hp => ?_⟩
  obtain ⟨g, h3, h4, h5⟩ := h2 hp
  refine ⟨g, h3, Nat.lt_of_lt_of_le h4 hb.size, fun i hi => ?_⟩
  obtain ⟨a0, a1, a2, a3⟩ := h5 i hi
  exact ⟨(hb.cell h4).trans a0, (hb.cell h4).trans a1, (hb.cell h4).trans a2, (hb.cell h4).trans a3⟩
theorem rd_own {w : World} {base n : Nat} {v : Value} {L : List Mo} {F : Nat → Mo} (h : w.ownsRow base 25 4 v n (flat L)) (hF : ∀ i, i < n → L[i]? = some (F i)) : Rd w v n F := by
  have h0 := h
  rcases h0.2 with ⟨rfl, rfl⟩ | ⟨g, cap, cur, rfl, _⟩
  · exact ⟨none, 0, rfl, fun h => absurd h (by omega)⟩
  · refine ⟨_, cap, rfl, fun hp => ?_⟩
    obtain ⟨g', cap', e1, _, hlt⟩ := h.form hp
    injection e1 with e1 e2 e3
    injection e1 with e1
    injection e1 with e1
    subst e1
    refine ⟨g, rfl, hlt, fun i hi => ?_⟩
    have k := flat_get _ i _ (hF i hi)
    exact ⟨(h.cellAt (i * 4) (by omega)).trans k.1, (h.cellAt (i * 4 + 1) (by omega)).trans k.2.1, (h.cellAt (i * 4 + 2) (by omega)).trans k.2.2.1, (h.cellAt (i * 4 + 3) (by omega)).trans k.2.2.2⟩
theorem rd_nil (w : World) (F : Nat → Mo) : Rd w (.slice none 0 0) 0 F := ⟨none, 0, rfl, fun h => absurd h (by omega)⟩
set_option maxHeartbeats 4000000 in
theorem same_any (v1 v2 : Value) (n : Nat) (F : Nat → Mo) (hn : n ≤ 1000000) (w : World) (H1 : Hid (Rd w v1 n F)) (H2 : Hid (Rd w v2 n F)) : Calls Try.prog 23 #[v1, v2] w fun e w' => e = .returned (.bool true) ∧ Below w.heap.size w w' := by
  obtain ⟨a1, c1, rfl, h1⟩ := H1.out
  obtain ⟨a2, c2, rfl, h2⟩ := H2.out
  have K1 := hid h1
  have K2 := hid h2
  clear h1 h2 H1 H2
  have hn' : (n : Int) ≤ 1000000 := by omega
  go_enter Try.func23, Try.ntmps23
  go_wp2_with fail
  go_loopw [5] (fun s5 wr => ∃ k : Nat, s5 = .int .i64 k ∧ k ≤ n ∧ Below w.heap.size w wr) (fun s5 _ => n - (intOf s5).toNat)
  case atStart => exact ⟨0, rfl, Nat.zero_le _, Below.refl _ _⟩
  case round =>
    obtain ⟨k, rfl, hk, hb⟩ := hrel
    by_cases hkT : k < n
    · obtain ⟨g1, rfl, hg1, hc1⟩ := K1.out (by omega)
      obtain ⟨g2, rfl, hg2, hc2⟩ := K2.out (by omega)
      obtain ⟨x0, x1, x2, x3⟩ := hc1 k hkT
      obtain ⟨y0, y1, y2, y3⟩ := hc2 k hkT
      clear hc1 hc2
      have hkI : (k : Int) < (n : Int) := by omega
      have hkI0 : (0 : Int) ≤ (k : Int) := by omega
      have q1 : ∀ w, (binOp .neq 25 (mo (F k).px (F k).py (F k).vx (F k).vy) (mo (F k).px (F k).py (F k).vx (F k).vy)).run Try.prog w = .ok (.bool false) w := fun w => by rw [neq_mo]; simp
      have hs := hb.size
      go_upto_region 6 with fail
      have rx0 : ∀ (z : Later wr), z.val.cell? ⟨g1, k * 4, none⟩ = some (.int .i64 (F k).px) := fun z => (z.cell (by omega)).trans ((hb.cell hg1).trans x0)
      have rx1 : ∀ (z : Later wr), z.val.cell? ⟨g1, k * 4 + 1, none⟩ = some (.int .i64 (F k).py) := fun z => (z.cell (by omega)).trans ((hb.cell hg1).trans x1)
      have rx2 : ∀ (z : Later wr), z.val.cell? ⟨g1, k * 4 + 2, none⟩ = some (.int .i64 (F k).vx) := fun z => (z.cell (by omega)).trans ((hb.cell hg1).trans x2)
      have rx3 : ∀ (z : Later wr), z.val.cell? ⟨g1, k * 4 + 3, none⟩ = some (.int .i64 (F k).vy) := fun z => (z.cell (by omega)).trans ((hb.cell hg1).trans x3)
      have ry0 : ∀ (z : Later wr), z.val.cell? ⟨g2, k * 4, none⟩ = some (.int .i64 (F k).px) := fun z => (z.cell (by omega)).trans ((hb.cell hg2).trans y0)
      have ry1 : ∀ (z : Later wr), z.val.cell? ⟨g2, k * 4 + 1, none⟩ = some (.int .i64 (F k).py) := fun z => (z.cell (by omega)).trans ((hb.cell hg2).trans y1)
      have ry2 : ∀ (z : Later wr), z.val.cell? ⟨g2, k * 4 + 2, none⟩ = some (.int .i64 (F k).vx) := fun z => (z.cell (by omega)).trans ((hb.cell hg2).trans y2)
      have ry3 : ∀ (z : Later wr), z.val.cell? ⟨g2, k * 4 + 3, none⟩ = some (.int .i64 (F k).vy) := fun z => (z.cell (by omega)).trans ((hb.cell hg2).trans y3)
      clear x0 x1 x2 x3 y0 y1 y2 y3
      refine wp_region_later (w0 := wr) (Below.refl _ _) (by kernel_rfl) (by kernel_rfl) ?_
      repeat (go_big_quiet_step (fail))
      refine wpQuiet_nil ?_
      intro _ hw'
      obtain ⟨z0, hw''⟩ := hw'
      subst hw''
      clear q1
      go_wp2_with fail
      go_roundw
      case rel => exact ⟨k + 1, by go_num, by omega, hb.trans (z0.ok.mono (by omega))⟩
      case measure => simp [intOf]; omega
    · go_wp2_with fail
      go_ret
      exact ⟨rfl, hb⟩
theorem run_no (px py vx vy : Int) (a : Option Addr) (len cap : Nat) (S A B H M : Int) (ev : vld px py vx vy S A B H M = false) (w : World) : Calls Try.prog 22 #[mo px py vx vy, .slice a len cap, lim S A B H M] w fun e w' => e = .returned (.slice none 0 0) ∧ Below w.heap.size w w' := by
  have HV := hid (valid_of ev)
  go_enter Try.func22, Try.ntmps22
  go_wp2_with (first | (go_at_call 12; (with_reducible refine (HV.out _).mono ?_); rintro e w2 ⟨rfl, hb⟩; obtain ⟨hc, hf⟩ := bcell hb))
  go_ret
  exact ⟨rfl, box2 hb⟩
theorem rrun_no (px py vx vy : Int) (a : Option Addr) (len cap : Nat) (S A B H M : Int) (ev : vld px py vx vy S A B H M = false) (w : World) : Calls Try.prog 24 #[mo px py vx vy, .slice a len cap, lim S A B H M] w fun e w' => e = .returned (.slice none 0 0) ∧ Below w.heap.size w w' := by
  have HV := hid (rvalid_of ev)
  go_enter Try.func24, Try.ntmps24
  go_wp2_with (first | (go_at_call 13; (with_reducible refine (HV.out _).mono ?_); rintro e w2 ⟨rfl, hb⟩; obtain ⟨hc, hf⟩ := bcell hb))
  go_ret
  exact ⟨rfl, box2 hb⟩
theorem rstop_no (px py vx vy : Int) (S A B H M : Int) (ev : vld px py vx vy S A B H M = false) (w : World) : Calls Try.prog 25 #[mo px py vx vy, lim S A B H M] w fun e w' => e = .returned (.slice none 0 0) ∧ Below w.heap.size w w' := by
  have HV := hid (rvalid_of ev)
  go_enter Try.func25, Try.ntmps25
  go_wp2_with (first | (go_at_call 13; (with_reducible refine (HV.out _).mono ?_); rintro e w2 ⟨rfl, hb⟩; obtain ⟨hc, hf⟩ := bcell hb))
  go_ret
  exact ⟨rfl, box2 hb⟩
/-- what Run and Stop return, as lists -/
def runN (m0 : Mo) (len : Nat) (S A B H M : Int) : Nat := if vld m0.px m0.py m0.vx m0.vy S A B H M then len else 0
def stopN (m0 : Mo) (S A B H M : Int) : Nat := if vld m0.px m0.py m0.vx m0.vy S A B H M then (stopL B 4097 m0).length else 0
theorem run_rd (m0 : Mo) (a : Option Addr) (len cap : Nat) (X Y : Nat → Int) (S A B H M : Int) (hlen : len ≤ 60) (w : World) (ha : Hid (Wants w a len X Y)) : Calls Try.prog 22 #[mo m0.px m0.py m0.vx m0.vy, .slice a len cap, lim S A B H M] w fun e w' => ∃ v, e = .returned v ∧ Rd w' v (runN m0 len S A B H M) (fun i => rit S A X Y (i + 1) m0) ∧ Below w.heap.size w w' := by
  cases ev : vld m0.px m0.py m0.vx m0.vy S A B H M with
  | false =>
    rw [show runN m0 len S A B H M = 0 from by unfold runN; rw [ev]; rfl]
    exact (run_no _ _ _ _ a len cap S A B H M ev w).mono fun e w' ⟨he, hb⟩ => ⟨_, he, rd_nil _ _, hb⟩
  | true =>
    rw [show runN m0 len S A B H M = len from by unfold runN; rw [ev]; rfl]
    exact (run_yes m0 a len cap X Y S A B H M hlen ev w ha).mono fun e w' ⟨v, he, ho, hb⟩ => ⟨v, he, rd_own ho (fun i hi => runL_get S A X Y len m0 i hi), hb⟩
theorem rrun_rd (m0 : Mo) (a : Option Addr) (len cap : Nat) (X Y : Nat → Int) (S A B H M : Int) (hlen : len ≤ 60) (w : World) (ha : Hid (Wants w a len X Y)) : Calls Try.prog 24 #[mo m0.px m0.py m0.vx m0.vy, .slice a len cap, lim S A B H M] w fun e w' => ∃ v, e = .returned v ∧ Rd w' v (runN m0 len S A B H M) (fun i => rit S A X Y (i + 1) m0) ∧ Below w.heap.size w w' := by
  cases ev : vld m0.px m0.py m0.vx m0.vy S A B H M with
  | false =>
    rw [show runN m0 len S A B H M = 0 from by unfold runN; rw [ev]; rfl]
    exact (rrun_no _ _ _ _ a len cap S A B H M ev w).mono fun e w' ⟨he, hb⟩ => ⟨_, he, rd_nil _ _, hb⟩
  | true =>
    rw [show runN m0 len S A B H M = len from by unfold runN; rw [ev]; rfl]
    exact (rrun_yes m0 a len cap X Y S A B H M hlen ev w ha).mono fun e w' ⟨v, he, ho, hb⟩ => ⟨v, he, rd_own ho (fun i hi => runL_get S A X Y len m0 i hi), hb⟩
theorem stop_rd (m0 : Mo) (S A B H M : Int) (w : World) : Calls Try.prog 20 #[mo m0.px m0.py m0.vx m0.vy, lim S A B H M] w fun e w' => ∃ v, e = .returned v ∧ Rd w' v (stopN m0 S A B H M) (fun i => itm B (i + 1) m0) ∧ Below w.heap.size w w' := by
  cases ev : vld m0.px m0.py m0.vx m0.vy S A B H M with
  | false =>
    rw [show stopN m0 S A B H M = 0 from by unfold stopN; rw [ev]; rfl]
    exact (stop_no _ _ _ _ S A B H M ev w).mono fun e w' ⟨he, hb⟩ => ⟨_, he, rd_nil _ _, hb⟩
  | true =>
    rw [show stopN m0 S A B H M = (stopL B 4097 m0).length from by unfold stopN; rw [ev]; rfl]
    have hl := ok_len (m := m0) ev
    obtain ⟨_, _, hs3, _⟩ := ok_sqr (m := m0) ev
    obtain ⟨sp, _, _⟩ := stopL_spec 4097 m0 ev (by omega)
    exact (stop_yes m0.px m0.py m0.vx m0.vy S A B H M ev w).mono fun e w' ⟨v, he, ho, hb⟩ => ⟨v, he, rd_own ho (fun i hi => (sp i hi).1), hb⟩
theorem rstop_rd (m0 : Mo) (S A B H M : Int) (w : World) : Calls Try.prog 25 #[mo m0.px m0.py m0.vx m0.vy, lim S A B H M] w fun e w' => ∃ v, e = .returned v ∧ Rd w' v (stopN m0 S A B H M) (fun i => itm B (i + 1) m0) ∧ Below w.heap.size w w' := by
  cases ev : vld m0.px m0.py m0.vx m0.vy S A B H M with
  | false =>
    rw [show stopN m0 S A B H M = 0 from by unfold stopN; rw [ev]; rfl]
    exact (rstop_no _ _ _ _ S A B H M ev w).mono fun e w' ⟨he, hb⟩ => ⟨_, he, rd_nil _ _, hb⟩
  | true =>
    rw [show stopN m0 S A B H M = (stopL B 4097 m0).length from by unfold stopN; rw [ev]; rfl]
    have hl := ok_len (m := m0) ev
    obtain ⟨_, _, hs3, _⟩ := ok_sqr (m := m0) ev
    obtain ⟨sp, _, _⟩ := stopL_spec 4097 m0 ev (by omega)
    exact (rstop_yes m0 S A B H M ev w).mono fun e w' ⟨v, he, ho, hb⟩ => ⟨v, he, rd_own ho (fun i hi => (sp i hi).1), hb⟩
theorem stopN_le (m0 : Mo) (S A B H M : Int) : stopN m0 S A B H M ≤ 1000000 := by
  unfold stopN
  cases ev : vld m0.px m0.py m0.vx m0.vy S A B H M with
  | false => simp
  | true =>
    have hl := ok_len (m := m0) ev
    obtain ⟨_, _, hs3, _⟩ := ok_sqr (m := m0) ev
    obtain ⟨_, _, sp⟩ := stopL_spec 4097 m0 ev (by omega)
    show (stopL B 4097 m0).length ≤ _
    omega
end Go.Proofs.Ythfpdlkeagoamaa
