/- Walks: Run, Same. -/
import Derived.Test.YthfpdlkeagoamaaWl
import Derived.Test.YthfpdlkeagoamaaMot5
import Derived.Maps.AppendAt
import Derived.Deep.AppendLies
namespace Go.Proofs.Ythfpdlkeagoamaa
open Go.RowKit
set_option linter.unusedVariables false
theorem frz_alloc {w : World} {o : Obj} {b j : Nat} (h : b < w.heap.size) : (w.alloc o).frozen? ⟨b, j, none⟩ = w.frozen? ⟨b, j, none⟩ := ((Below.refl w.heap.size w).alloc (Nat.le_refl _) o).frozen (p := ⟨b, j, none⟩) h
theorem set_frz (w : World) (a p : Addr) (u : Value) : (w.setCell a u).frozen? p = w.frozen? p := by simp [go_sem]
theorem set4_frz {w : World} {g b j : Nat} {u0 u1 u2 u3 : Value} {r : Bool} (h : w.frozen? ⟨b, j, none⟩ = r) : ((((w.setCell ⟨g, 0, none⟩ u0).setCell ⟨g, 1, none⟩ u1).setCell ⟨g, 2, none⟩ u2).setCell ⟨g, 3, none⟩ u3).frozen? ⟨b, j, none⟩ = r := by
  rw [set_frz, set_frz, set_frz, set_frz]; exact h
theorem grown_frz {w w' : World} {o : Obj} {g : Nat} {row : Option Nat} (hg : (w.alloc o).grownBy w' row) (hlt : g < w.heap.size) (hne : row ≠ some g) (k : Nat) : w'.frozen? ⟨g, k, none⟩ = w.frozen? ⟨g, k, none⟩ :=
  (World.frozen?_of_block (w := w.alloc o) (hg.block g (by simp; omega) (Ne.symm hne))).trans (frz_alloc hlt)
theorem below_round0 {W w3 w4 : World} {g : Nat} {u0 u1 u2 u3 : Value} {o : Obj} {row : Option Nat} (hb : Below W.heap.size W w3) (hg : W.heap.size ≤ g) (hgr : (((((w3.setCell ⟨g, 0, none⟩ u0).setCell ⟨g, 1, none⟩ u1).setCell ⟨g, 2, none⟩ u2).setCell ⟨g, 3, none⟩ u3).alloc o).grownBy w4 row) (hrow : ∀ k, row = some k → W.heap.size ≤ k) : Below W.heap.size W w4 := by
  have h1 := ((((hb.setCell (p := ⟨g, 0, none⟩) hg u0).setCell (p := ⟨g, 1, none⟩) hg u1).setCell (p := ⟨g, 2, none⟩) hg u2).setCell (p := ⟨g, 3, none⟩) hg u3)
  exact (h1.alloc h1.size o).grown hgr ((h1.alloc h1.size o).size) hrow
theorem step_mo (m : Mo) {S A B H M : Int} (h : m.ok S A B H M) (wx wy : Int) (w : World) : Calls Try.prog 34 #[mo m.px m.py m.vx m.vy, pt wx wy, rule 35 S A B H M] w fun e w' => e = .returned (mo (st1 S A wx wy m).px (st1 S A wx wy m).py (st1 S A wx wy m).vx (st1 S A wx wy m).vy) ∧ Below w.heap.size w w' := step_next h w
theorem rstep_mo (m : Mo) {S A B H M : Int} (h : m.ok S A B H M) (wx wy : Int) (w : World) : Calls Try.prog 17 #[mo m.px m.py m.vx m.vy, pt wx wy, lim S A B H M] w fun e w' => e = .returned (mo (st1 S A wx wy m).px (st1 S A wx wy m).py (st1 S A wx wy m).vx (st1 S A wx wy m).vy) ∧ Below w.heap.size w w' := rstep_yes m.px m.py m.vx m.vy wx wy S A B H M h w
theorem pstep_mo (m : Mo) {S A B H M : Int} (h : m.ok S A B H M) (wx wy : Int) (w : World) : Calls Try.prog 15 #[mo m.px m.py m.vx m.vy, pt wx wy, lim S A B H M] w fun e w' => e = .returned (mo (st1 S A wx wy m).px (st1 S A wx wy m).py (st1 S A wx wy m).vx (st1 S A wx wy m).vy) ∧ Below w.heap.size w w' := step_yes m.px m.py m.vx m.vy wx wy S A B H M h w
/-- the wants, in memory -/
def Wants (w : World) (a : Option Addr) (len : Nat) (X Y : Nat → Int) : Prop := 0 < len → ∃ b off, a = some ⟨b, off, none⟩ ∧ b < w.heap.size ∧ ∀ i, i < len → w.cell? ⟨b, off + i * 2, none⟩ = some (.int .i64 (X i)) ∧ w.cell? ⟨b, off + i * 2 + 1, none⟩ = some (.int .i64 (Y i))
theorem wants_below {w w' : World} {a : Option Addr} {len : Nat} {X Y : Nat → Int} (h : Wants w a len X Y) (hb : Below w.heap.size w w') : Wants w' a len X Y := fun hp => by
  obtain ⟨b, off, h1, h2, h3⟩ := h hp
  exact ⟨b, off, h1, Nat.lt_of_lt_of_le h2 hb.size, fun i hi => ⟨(hb.cell h2).trans (h3 i hi).1, (hb.cell h2).trans (h3 i hi).2⟩⟩
set_option maxHeartbeats 4000000 in
theorem run_yes (m0 : Mo) (a : Option Addr) (len cap : Nat) (X Y : Nat → Int) (S A B H M : Int) (hlen : len ≤ 60) (h : m0.ok S A B H M) (w : World) (ha : Hid (Wants w a len X Y)) :
    Calls Try.prog 22 #[mo m0.px m0.py m0.vx m0.vy, .slice a len cap, lim S A B H M] w fun e w' => ∃ v, e = .returned v ∧ w'.ownsRow (w.heap.size + 1 + 1) 25 4 v len (flat (runL S A X Y len m0)) ∧ Below w.heap.size w w' := by
  have HV := hid (valid_of h)
  obtain ⟨i0, hi, hz0, hz1, hz2⟩ := info_parts info25
  have HO := hid h
  clear h
  have hlen' : (len : Int) ≤ 60 := by omega
  go_enter Try.func22, Try.ntmps22
  go_wp2_with (first | (go_at_call 12; (with_reducible refine (HV.out _).mono ?_); rintro e w2 ⟨rfl, hb⟩; obtain ⟨hc, hf⟩ := bcell hb; have hz : w.heap.size + 1 < w2.heap.size := (by have := hb.size; simp at this; omega)))
  clear HV
  go_loopw [7, 18] (fun s7 s18 wr => ∃ (k : Nat) (m : Mo), s18 = .int .i64 k ∧ k ≤ len ∧ Hid (m = rit S A X Y k m0) ∧ w2.heap.size < wr.heap.size ∧ wr.cell? ⟨w2.heap.size, 0, none⟩ = some (.int .i64 m.px) ∧ wr.cell? ⟨w2.heap.size, 1, none⟩ = some (.int .i64 m.py) ∧ wr.cell? ⟨w2.heap.size, 2, none⟩ = some (.int .i64 m.vx) ∧ wr.cell? ⟨w2.heap.size, 3, none⟩ = some (.int .i64 m.vy) ∧ wr.frozen? ⟨w2.heap.size, 0, none⟩ = false ∧ wr.frozen? ⟨w2.heap.size, 1, none⟩ = false ∧ wr.frozen? ⟨w2.heap.size, 2, none⟩ = false ∧ wr.frozen? ⟨w2.heap.size, 3, none⟩ = false ∧ Hid (s7.ownBlock ≠ some w2.heap.size) ∧ wr.ownsRow (w.heap.size + 1 + 1) 25 4 s7 k (flat (runL S A X Y k m0)) ∧ Below ((w.alloc (.cells #[.int .i64 m0.px, .int .i64 m0.py, .int .i64 m0.vx, .int .i64 m0.vy] 25)).alloc (.cells #[.int .i64 S, .int .i64 A, .int .i64 B, .int .i64 H, .int .i64 M] 27)).heap.size ((w.alloc (.cells #[.int .i64 m0.px, .int .i64 m0.py, .int .i64 m0.vx, .int .i64 m0.vy] 25)).alloc (.cells #[.int .i64 S, .int .i64 A, .int .i64 B, .int .i64 H, .int .i64 M] 27)) wr) (fun _ s18 _ => len - (intOf s18).toNat)
  case atStart =>
    exact ⟨0, m0, rfl, Nat.zero_le _, hid rfl, by simp, by go_simp, by go_simp, by go_simp, by go_simp, by go_simp, by go_simp, by go_simp, by go_simp, hid (by intro h; cases h), ⟨rfl, .inl ⟨rfl, rfl⟩⟩, hb.alloc hb.size _⟩
  case round =>
    clear hb hc hf
    obtain ⟨k, m, rfl, hk, HM, hgr, c0, c1, c2, c3, f0, f1, f2, f3, HNB, hown, hb⟩ := hrel
    have hsr : w.heap.size + 1 < wr.heap.size := by omega
    have hl1 : ∀ o, wr.cell? ⟨w.heap.size + 1, o, none⟩ = ((w.alloc (.cells #[.int .i64 m0.px, .int .i64 m0.py, .int .i64 m0.vx, .int .i64 m0.vy] 25)).alloc (.cells #[.int .i64 S, .int .i64 A, .int .i64 B, .int .i64 H, .int .i64 M] 27)).cell? ⟨w.heap.size + 1, o, none⟩ := fun o => hb.cell (by simp <;> omega)
    by_cases hkT : k < len
    · obtain ⟨b, off, rfl, hbw, hcell⟩ := ha.out (by omega)
      obtain ⟨x0, x1⟩ := hcell k hkT
      clear hcell
      have hW : Below w.heap.size w wr := box2 hb
      have x0' : wr.cell? ⟨b, off + k * 2, none⟩ = some (.int .i64 (X k)) := (hW.cell hbw).trans x0
      have x1' : wr.cell? ⟨b, off + k * 2 + 1, none⟩ = some (.int .i64 (Y k)) := (hW.cell hbw).trans x1
      clear x0 x1
      have hkI : (k : Int) < (len : Int) := by omega
      have hkI0 : (0 : Int) ≤ (k : Int) := by omega
      have hmk : m.ok S A B H M := by rw [HM.out]; exact rit_ok HO.out X Y k
      have HB := hid (fun w => step_mo m hmk (X k) (Y k) w)
      have HNM : Hid (st1 S A (X k) (Y k) m = rit S A X Y (k + 1) m0) := hid (by rw [HM.out]; rfl)
      clear hmk
      generalize st1 S A (X k) (Y k) m = nx at *
      go_upto_region 8 with fail
      go_wp2_with fail
      (with_reducible refine (HB.out _).mono ?_); rintro e w3 ⟨rfl, hb3⟩; obtain ⟨hc3, hf3⟩ := bcell hb3; have hs3 := hb3.size; have hown3 := own_below (hown.alloc _) hb3
      have y0 := (hc3 w2.heap.size 0 (by rw [alloc_size]; omega)).trans ((World.cell?_alloc_lt _ _ _ hgr).trans c0)
      have y1 := (hc3 w2.heap.size 1 (by rw [alloc_size]; omega)).trans ((World.cell?_alloc_lt _ _ _ hgr).trans c1)
      have y2 := (hc3 w2.heap.size 2 (by rw [alloc_size]; omega)).trans ((World.cell?_alloc_lt _ _ _ hgr).trans c2)
      have y3 := (hc3 w2.heap.size 3 (by rw [alloc_size]; omega)).trans ((World.cell?_alloc_lt _ _ _ hgr).trans c3)
      have g0 := (hf3 w2.heap.size 0 (by rw [alloc_size]; omega)).trans ((frz_alloc hgr).trans f0)
      have g1 := (hf3 w2.heap.size 1 (by rw [alloc_size]; omega)).trans ((frz_alloc hgr).trans f1)
      have g2 := (hf3 w2.heap.size 2 (by rw [alloc_size]; omega)).trans ((frz_alloc hgr).trans f2)
      have g3 := (hf3 w2.heap.size 3 (by rw [alloc_size]; omega)).trans ((frz_alloc hgr).trans f3)
      clear hc3 hf3
      obtain ⟨p0, p1, p2, p3⟩ := set4_cells y0 y1 y2 y3 (.int .i64 nx.px) (.int .i64 nx.py) (.int .i64 nx.vx) (.int .i64 nx.vy)
      have HP := hid (And.intro p0 (And.intro p1 (And.intro p2 p3)))
      clear p0 p1 p2 p3
      rw [alloc_size] at hs3
      have hg3 : w2.heap.size < w3.heap.size := by omega
      go_upto_region 9 with fail
      go_wp2_with (at_builtin; refine wpList_append_own_at _ rfl _ _ 39 rfl (w.heap.size + 1 + 1) 25 i0 (.agg #[.int .i64 0, .int .i64 0, .int .i64 0, .int .i64 0]) 4 32 Try.underlying39 hi hz0 hz1 hz2 agg4_size (by decide) u7 k (flat (runL S A X Y k m0)) rfl ((own_set4 hown3 HNB.out _ _ _ _).alloc _) ⟨w3.heap.size, 0, none⟩ 1 1 [.int .i64 nx.px, .int .i64 nx.py, .int .i64 nx.vx, .int .i64 nx.vy] rfl rfl (cells4_new (set4_size _ _ _ _ _ _) _ _ _ _ _) (one4 _ _ _ _) (by unfold maxLen; omega) (by omega) (by rw [alloc_size, set4_size]; omega) ?_
                   intro v' w4 hown4 hgrow4 _ hat4; have HG := hid hgrow4; have hfar := grown_far HG.out (by rw [set4_size]; omega) HNB.out; have d0 := (hfar 0).trans HP.out.1; have d1 := (hfar 1).trans HP.out.2.1; have d2 := (hfar 2).trans HP.out.2.2.1; have d3 := (hfar 3).trans HP.out.2.2.2; have hff := grown_frz HG.out (by rw [set4_size]; omega) HNB.out; have HD := hid (And.intro d0 (And.intro d1 (And.intro d2 d3))); have HF := hid (And.intro ((hff 0).trans (set4_frz g0)) (And.intro ((hff 1).trans (set4_frz g1)) (And.intro ((hff 2).trans (set4_frz g2)) ((hff 3).trans (set4_frz g3))))); clear d0 d1 d2 d3 hfar hff hgrow4 c0 c1 c2 c3 f0 f1 f2 f3 y0 y1 y2 y3 g0 g1 g2 g3 HP HB)
      have hlt4 := hown4.lt
      go_roundw
      case rel =>
        refine ⟨k + 1, nx, by go_num, by omega, HNM, by have := HG.out.size; rw [alloc_size, set4_size] at this; omega, HD.out.1, HD.out.2.1, HD.out.2.2.1, HD.out.2.2.2, HF.out.1, HF.out.2.1, HF.out.2.2.1, HF.out.2.2.2, hid ?_, ?_, ?_⟩
        · rcases hat4 with e | e
          · rw [e]; exact HNB.out
          · rw [e, alloc_size, set4_size]; intro h; injection h with h; omega
        · rw [runL_succ, flat_snoc, ← HNM.out]; exact hown4
        · exact below_round0 ((hb.alloc hb.size _).trans (hb3.mono (Nat.le_trans hb.size (by rw [alloc_size]; omega)))) (by rw [alloc_size, alloc_size]; omega) HG.out (fun k hk => by have := (hown.lt k hk).1; rw [alloc_size, alloc_size]; omega)
      case measure => simp [intOf]; omega
    · obtain rfl : k = len := by omega
      go_wp2_with fail
      go_ret
      exact ⟨_, rfl, hown, box2 hb⟩
end Go.Proofs.Ythfpdlkeagoamaa
