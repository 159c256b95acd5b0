/- Walks: Stop. -/
import Derived.Test.YthfpdlkeagoamaaWi
import Derived.Test.YthfpdlkeagoamaaMot3
import Derived.Maps.AppendAt
import Derived.Deep.AppendLies
namespace Go.Proofs.Ythfpdlkeagoamaa
open Go.RowKit
set_option linter.unusedVariables false
theorem info25 : (Try.prog.info? 25).map (fun i => (i.zero, i.size, i.bytes)) = some (some (.agg #[.int .i64 0, .int .i64 0, .int .i64 0, .int .i64 0]), 4, 32) := by kernel_rfl
def Mo.cells (m : Mo) : List Value := [.int .i64 m.px, .int .i64 m.py, .int .i64 m.vx, .int .i64 m.vy]
def flat (L : List Mo) : List Value := L.flatMap Mo.cells
theorem flat_len (L : List Mo) : (flat L).length = L.length * 4 := by
  induction L with
  | nil => rfl
  | cons m L ih => simp only [flat, List.flatMap_cons, List.length_append, List.length_cons] at ih ⊢; rw [show (Mo.cells m).length = 4 from rfl]; omega
theorem flat_snoc (L : List Mo) (m : Mo) : flat (L ++ [m]) = flat L ++ m.cells := by simp [flat]
theorem cells4_new {w : World} {g : Nat} (hg : w.heap.size = g) (c0 c1 c2 c3 : Value) (t : TypeId) : ∀ (j : Nat) (u : Value), [c0, c1, c2, c3][j]? = some u → (w.alloc (.cells #[c0, c1, c2, c3] t)).cell? ((⟨g, 0, none⟩ : Addr).add j) = some u := by
  subst hg
  intro j u h
  have hb : (w.alloc (.cells #[c0, c1, c2, c3] t)).heap[w.heap.size]? = some (.cells #[c0, c1, c2, c3] t) := by
    show (w.heap.push _)[w.heap.size]? = _
    rw [Array.getElem?_push_size]
  have := (block_cells hb).1 j
  have ea : (⟨w.heap.size, 0, none⟩ : Addr).add j = ⟨w.heap.size, j, none⟩ := by
    unfold Addr.add
    split
    · rename_i h; subst h; rfl
    · simp
  rw [ea, this]
  simpa using h
theorem own_set {w : World} {base size n : Nat} {e : TypeId} {v : Value} {xs : List Value} (h : w.ownsRow base e size v n xs) {a : Addr} (hne : v.ownBlock ≠ some a.block) (u : Value) : (w.setCell a u).ownsRow base e size v n xs := by
  obtain ⟨h1, h2⟩ := h
  refine ⟨h1, ?_⟩
  rcases h2 with h2 | ⟨g, cap, cur, hv, hg, hh, r⟩
  · exact Or.inl h2
  · subst hv
    exact Or.inr ⟨g, cap, cur, rfl, hg, by rw [Below.heap_setCell _ _ _ _ (fun e => hne (by rw [← e]; rfl))]; exact hh, r⟩
theorem own_set4 {w : World} {base size n g : Nat} {e : TypeId} {v : Value} {xs : List Value} (h : w.ownsRow base e size v n xs) (hne : v.ownBlock ≠ some g) (u0 u1 u2 u3 : Value) :
    ((((w.setCell ⟨g, 0, none⟩ u0).setCell ⟨g, 1, none⟩ u1).setCell ⟨g, 2, none⟩ u2).setCell ⟨g, 3, none⟩ u3).ownsRow base e size v n xs :=
  own_set (own_set (own_set (own_set h hne u0) hne u1) hne u2) hne u3
theorem set4_cells {w : World} {g : Nat} {a0 a1 a2 a3 : Value} (h0 : w.cell? ⟨g, 0, none⟩ = some a0) (h1 : w.cell? ⟨g, 1, none⟩ = some a1) (h2 : w.cell? ⟨g, 2, none⟩ = some a2) (h3 : w.cell? ⟨g, 3, none⟩ = some a3) (u0 u1 u2 u3 : Value) :
    ((((w.setCell ⟨g, 0, none⟩ u0).setCell ⟨g, 1, none⟩ u1).setCell ⟨g, 2, none⟩ u2).setCell ⟨g, 3, none⟩ u3).cell? ⟨g, 0, none⟩ = some u0 ∧
    ((((w.setCell ⟨g, 0, none⟩ u0).setCell ⟨g, 1, none⟩ u1).setCell ⟨g, 2, none⟩ u2).setCell ⟨g, 3, none⟩ u3).cell? ⟨g, 1, none⟩ = some u1 ∧
    ((((w.setCell ⟨g, 0, none⟩ u0).setCell ⟨g, 1, none⟩ u1).setCell ⟨g, 2, none⟩ u2).setCell ⟨g, 3, none⟩ u3).cell? ⟨g, 2, none⟩ = some u2 ∧
    ((((w.setCell ⟨g, 0, none⟩ u0).setCell ⟨g, 1, none⟩ u1).setCell ⟨g, 2, none⟩ u2).setCell ⟨g, 3, none⟩ u3).cell? ⟨g, 3, none⟩ = some u3 := by
  refine ⟨?_, ?_, ?_, ?_⟩ <;> go_simp
/-- a block that was there and is not the row's is as it was behind an append -/
theorem grown_far {w w' : World} {o : Obj} {g : Nat} {row : Option Nat} (hg : (w.alloc o).grownBy w' row) (hlt : g < w.heap.size) (hne : row ≠ some g) (k : Nat) : w'.cell? ⟨g, k, none⟩ = w.cell? ⟨g, k, none⟩ :=
  (World.cell?_of_block (w := w.alloc o) (hg.block g (by simp; omega) (Ne.symm hne))).trans (World.cell?_alloc_lt _ _ _ hlt)
theorem agg4_size : (Value.agg #[.int .i64 0, .int .i64 0, .int .i64 0, .int .i64 0]).cells.size = 4 := rfl
theorem alloc_size (w : World) (o : Obj) : (w.alloc o).heap.size = w.heap.size + 1 := by simp
theorem set4_size (w : World) (g : Nat) (u0 u1 u2 u3 : Value) : ((((w.setCell ⟨g, 0, none⟩ u0).setCell ⟨g, 1, none⟩ u1).setCell ⟨g, 2, none⟩ u2).setCell ⟨g, 3, none⟩ u3).heap.size = w.heap.size := by simp [World.setCell]
theorem one4 (a b c d : Int) : ∀ u ∈ ([.int .i64 a, .int .i64 b, .int .i64 c, .int .i64 d] : List Value), u.oneCell' = true := by
  intro u hu
  simp at hu
  rcases hu with rfl | rfl | rfl | rfl <;> rfl
/-- how fast the motion in a block is -/
def vlen (w : World) (v : Value) : Nat := match v with
  | .pointer (some a) => (isq (sqr (intOf ((w.cell? ⟨a.block, 2, none⟩).getD undef)) (intOf ((w.cell? ⟨a.block, 3, none⟩).getD undef)))).toNat
  | _ => 0
theorem vlen_of {w : World} {g : Nat} {x y : Int} (h2 : w.cell? ⟨g, 2, none⟩ = some (.int .i64 x)) (h3 : w.cell? ⟨g, 3, none⟩ = some (.int .i64 y)) : vlen w (.pointer (some ⟨g, 0, none⟩)) = (isq (sqr x y)).toNat := by
  show (isq (sqr (intOf ((w.cell? ⟨g, 2, none⟩).getD undef)) (intOf ((w.cell? ⟨g, 3, none⟩).getD undef)))).toNat = _
  rw [h2, h3]
  rfl
theorem vlen_new (w : World) (a b c d : Int) : vlen (w.alloc (.cells #[.int .i64 a, .int .i64 b, .int .i64 c, .int .i64 d] 25)) (.pointer (some ⟨w.heap.size, 0, none⟩)) = (isq (sqr c d)).toNat := by
  have hb : (w.alloc (.cells #[.int .i64 a, .int .i64 b, .int .i64 c, .int .i64 d] 25)).heap[w.heap.size]? = some (.cells #[.int .i64 a, .int .i64 b, .int .i64 c, .int .i64 d] 25) := by
    show (w.heap.push _)[w.heap.size]? = _
    rw [Array.getElem?_push_size]
  have q := (block_cells hb).1
  exact vlen_of (q 2) (q 3)
theorem below_round {W w3 w4 : World} {g : Nat} {u0 u1 u2 u3 : Value} {o : Obj} {row : Option Nat} (hb : Below W.heap.size W w3) (hg : W.heap.size ≤ g) (hgr : (((((w3.setCell ⟨g, 0, none⟩ u0).setCell ⟨g, 1, none⟩ u1).setCell ⟨g, 2, none⟩ u2).setCell ⟨g, 3, none⟩ u3).alloc o).grownBy w4 row) (hrow : ∀ k, row = some k → W.heap.size ≤ k) (o' : Obj) : Below W.heap.size W (w4.alloc o') := by
  have h1 := ((((hb.setCell (p := ⟨g, 0, none⟩) hg u0).setCell (p := ⟨g, 1, none⟩) hg u1).setCell (p := ⟨g, 2, none⟩) hg u2).setCell (p := ⟨g, 3, none⟩) hg u3)
  have h2 := (h1.alloc h1.size o).grown hgr ((h1.alloc h1.size o).size) hrow
  exact h2.alloc h2.size o'
theorem brake_next (m : Mo) {S A B H M : Int} (h : m.ok S A B H M) (w : World) : Calls Try.prog 34 #[mo m.px m.py m.vx m.vy, pt 0 0, rule 39 S A B H M] w fun e w' => e = .returned (mo (brk1 B m).px (brk1 B m).py (brk1 B m).vx (brk1 B m).vy) ∧ Below w.heap.size w w' := by
  obtain ⟨k1, k2⟩ := vld_true h
  have k3 := chk_true k1
  have k4 := vld_abs h
  have k5 := brk_range (vx := m.vx) (vy := m.vy) (B := B) (by omega) (by omega) (by omega) (by omega)
  exact next39_any S A B H M m.px m.py m.vx m.vy 0 0 (brkX m.vx m.vy B) (brkY m.vx m.vy B) (by omega) (by omega) (by omega) (by omega) (by omega) (by omega) (by omega) (by omega) (hid (fun w => braked_any S A B H M m.vx m.vy 0 0 (by omega) (by omega) (by omega) (by omega) (by omega) (by omega) w)) w
theorem stop_no (px py vx vy S A B H M : Int) (ev : vld px py vx vy S A B H M = false) (w : World) : Calls Try.prog 20 #[mo px py vx vy, lim S A B H M] w fun e w' => e = .returned (.slice none 0 0) ∧ Below w.heap.size w w' := by
  have HV := hid (valid_of ev)
  go_enter Try.func20, Try.ntmps20
  go_wp2_with (first | (go_at_call 12; (with_reducible refine (HV.out _).mono ?_); rintro e w2 ⟨rfl, hb⟩; obtain ⟨hc, hf⟩ := bcell hb))
  go_ret
  exact ⟨rfl, box2 hb⟩
set_option maxHeartbeats 4000000 in
theorem stop_yes (px py vx vy S A B H M : Int) (ev : vld px py vx vy S A B H M = true) (w : World) : Calls Try.prog 20 #[mo px py vx vy, lim S A B H M] w fun e w' =>
    ∃ v, e = .returned v ∧ w'.ownsRow (w.heap.size + 1 + 1) 25 4 v (stopL B 4097 ⟨px, py, vx, vy⟩).length (flat (stopL B 4097 ⟨px, py, vx, vy⟩)) ∧ Below w.heap.size w w' := by
  have HV := hid (valid_of ev)
  obtain ⟨i0, hi, hz0, hz1, hz2⟩ := info_parts info25
  have HO : Hid ((⟨px, py, vx, vy⟩ : Mo).ok S A B H M) := hid ev
  have hl := ok_len HO.out
  obtain ⟨_, _, hs3, _⟩ := ok_sqr HO.out
  generalize hm0 : (⟨px, py, vx, vy⟩ : Mo) = m0 at *
  have e1 : px = m0.px := by rw [← hm0]
  have e2 : py = m0.py := by rw [← hm0]
  have e3 : vx = m0.vx := by rw [← hm0]
  have e4 : vy = m0.vy := by rw [← hm0]
  subst e1 e2 e3 e4
  clear hm0 ev
  go_enter Try.func20, Try.ntmps20
  go_wp2_with (first | (go_at_call 12; (with_reducible refine (HV.out _).mono ?_); rintro e w2 ⟨rfl, hb⟩; obtain ⟨hc, hf⟩ := bcell hb; have hz : w.heap.size + 1 < w2.heap.size := (by have := hb.size; simp at this; omega)))
  clear HV
  go_loopw [5, 6] (fun s5 s6 wr => ∃ (L : List Mo) (m : Mo) (g : Nat), s6 = .pointer (some ⟨g, 0, none⟩) ∧ Hid (m.ok S A B H M) ∧ Hid (L ++ stopL B (4097 - L.length) m = stopL B 4097 m0) ∧ (L.length : Int) + m.len ≤ S ∧ g < wr.heap.size ∧ w.heap.size + 1 + 1 ≤ g ∧ wr.cell? ⟨g, 0, none⟩ = some (.int .i64 m.px) ∧ wr.cell? ⟨g, 1, none⟩ = some (.int .i64 m.py) ∧ wr.cell? ⟨g, 2, none⟩ = some (.int .i64 m.vx) ∧ wr.cell? ⟨g, 3, none⟩ = some (.int .i64 m.vy) ∧ wr.frozen? ⟨g, 0, none⟩ = false ∧ wr.frozen? ⟨g, 1, none⟩ = false ∧ wr.frozen? ⟨g, 2, none⟩ = false ∧ wr.frozen? ⟨g, 3, none⟩ = false ∧ Hid (s5.ownBlock ≠ some g) ∧ wr.ownsRow (w.heap.size + 1 + 1) 25 4 s5 L.length (flat L) ∧ Below ((w.alloc (.cells #[.int .i64 m0.px, .int .i64 m0.py, .int .i64 m0.vx, .int .i64 m0.vy] 25)).alloc (.cells #[.int .i64 S, .int .i64 A, .int .i64 B, .int .i64 H, .int .i64 M] 27)).heap.size ((w.alloc (.cells #[.int .i64 m0.px, .int .i64 m0.py, .int .i64 m0.vx, .int .i64 m0.vy] 25)).alloc (.cells #[.int .i64 S, .int .i64 A, .int .i64 B, .int .i64 H, .int .i64 M] 27)) wr) (fun _ s6 wr => vlen wr s6)
  case atStart =>
    exact ⟨[], m0, w2.heap.size, rfl, HO, hid rfl, by simpa using hl.2, by simp, by omega, by go_simp, by go_simp, by go_simp, by go_simp, by go_simp, by go_simp, by go_simp, by go_simp, hid (by intro h; cases h), ⟨rfl, .inl ⟨rfl, rfl⟩⟩, hb.alloc hb.size _⟩
  case round =>
    clear hb hc hf
    obtain ⟨L, m, g, rfl, HM, HL, hLm, hgr, hgl, c0, c1, c2, c3, f0, f1, f2, f3, HNB, hown, hb⟩ := hrel
    have hsr : w.heap.size + 1 < wr.heap.size := by have := hb.size; simp at this; omega
    have hl1 : ∀ o, wr.cell? ⟨w.heap.size + 1, o, none⟩ = ((w.alloc (.cells #[.int .i64 m0.px, .int .i64 m0.py, .int .i64 m0.vx, .int .i64 m0.vy] 25)).alloc (.cells #[.int .i64 S, .int .i64 A, .int .i64 B, .int .i64 H, .int .i64 M] 27)).cell? ⟨w.heap.size + 1, o, none⟩ := fun o => hb.cell (by simp <;> omega)
    have HB := hid (fun w => brake_next m HM.out w)
    by_cases hz : m.vx = 0 ∧ m.vy = 0
    · have qn : ∀ w, (binOp .neq 23 (.agg #[.int .i64 m.vx, .int .i64 m.vy]) (.agg #[.int .i64 0, .int .i64 0])).run Try.prog w = .ok (.bool false) w := fun w => by rw [neq_pt, hz.1, hz.2]; rfl
      have he : flat L = flat (stopL B 4097 m0) ∧ L.length = (stopL B 4097 m0).length := by
        rw [← HL.out, stopL_end hz.1 hz.2, List.append_nil]
        exact ⟨rfl, rfl⟩
      have HE := hid he
      clear he hz
      go_wp2_with fail
      go_ret
      exact ⟨_, rfl, by rw [← HE.out.1, ← HE.out.2]; exact hown, box2 hb⟩
    · have qn : ∀ w, (binOp .neq 23 (.agg #[.int .i64 m.vx, .int .i64 m.vy]) (.agg #[.int .i64 0, .int .i64 0])).run Try.prog w = .ok (.bool true) w := fun w => by
        rw [neq_pt]
        by_cases h : m.vx = 0
        · rw [decide_eq_true h, decide_eq_false (fun h' => hz ⟨h, h'⟩)]; rfl
        · rw [decide_eq_false h]; rfl
      have hlt := brk1_lt HM.out hz
      have h0 := (ok_len (brk1_ok HM.out)).1
      have HNE := hid hz
      clear hz
      go_upto_region 6 with fail
      go_wp2_with fail
      (with_reducible refine (HB.out _).mono ?_); rintro e w3 ⟨rfl, hb3⟩; obtain ⟨hc3, hf3⟩ := bcell hb3; have hs3 := hb3.size; have hown3 := own_below hown hb3; obtain ⟨p0, p1, p2, p3⟩ := set4_cells ((hc3 _ _ hgr).trans c0) ((hc3 _ _ hgr).trans c1) ((hc3 _ _ hgr).trans c2) ((hc3 _ _ hgr).trans c3) (.int .i64 (brk1 B m).px) (.int .i64 (brk1 B m).py) (.int .i64 (brk1 B m).vx) (.int .i64 (brk1 B m).vy)
      have HC := hid (And.intro c2 c3)
      have HP := hid (And.intro p0 (And.intro p1 (And.intro p2 p3)))
      clear p0 p1 p2 p3
      go_upto_region 7 with fail
      go_wp2_with (at_builtin; refine wpList_append_own _ rfl _ _ 39 rfl (w.heap.size + 1 + 1) 25 i0 (.agg #[.int .i64 0, .int .i64 0, .int .i64 0, .int .i64 0]) 4 32 Try.underlying39 hi hz0 hz1 hz2 agg4_size (by decide) u5 L.length (flat L) rfl ((own_set4 hown3 HNB.out _ _ _ _).alloc _) ⟨w3.heap.size, 0, none⟩ 1 1 [.int .i64 (brk1 B m).px, .int .i64 (brk1 B m).py, .int .i64 (brk1 B m).vx, .int .i64 (brk1 B m).vy] rfl rfl (cells4_new (set4_size _ _ _ _ _ _) _ _ _ _ _) (one4 _ _ _ _) (by unfold maxLen; omega) (by omega) (by rw [alloc_size, set4_size]; omega) ?_
                   intro v' w4 hown4 hgrow4 _; have hfar := grown_far hgrow4 (by rw [set4_size]; omega) HNB.out; have d0 := (hfar 0).trans HP.out.1; have d1 := (hfar 1).trans HP.out.2.1; have d2 := (hfar 2).trans HP.out.2.2.1; have d3 := (hfar 3).trans HP.out.2.2.2; have HG := hid hgrow4; clear hfar hgrow4 hc3 hf3 c0 c1 c2 c3 f0 f1 f2 f3 HP HB qn)
      have hlt4 := hown4.lt
      go_roundw
      case rel =>
        refine ⟨L ++ [brk1 B m], brk1 B m, w4.heap.size, rfl, hid (brk1_ok HM.out), hid ?_, by simp only [List.length_append, List.length_singleton]; omega, by simp, by have := HG.out.size; rw [alloc_size, set4_size] at this; omega, by go_simp, by go_simp, by go_simp, by go_simp, by go_simp, by go_simp, by go_simp, by go_simp, hid (fun h => absurd (hlt4 _ h).2 (Nat.lt_irrefl _)), ?_, ?_⟩
        · rw [← HL.out, List.append_assoc, List.length_append, List.length_singleton, show 4097 - L.length = (4097 - (L.length + 1)) + 1 from by omega, stopL_go HNE.out]; rfl
        · rw [flat_snoc, List.length_append, List.length_singleton]; exact hown4.alloc _
        · have hgg : ((w.alloc (.cells #[.int .i64 m0.px, .int .i64 m0.py, .int .i64 m0.vx, .int .i64 m0.vy] 25)).alloc (.cells #[.int .i64 S, .int .i64 A, .int .i64 B, .int .i64 H, .int .i64 M] 27)).heap.size ≤ g := by simp; omega
          exact below_round (hb.trans (hb3.mono hb.size)) hgg HG.out (fun k hk => by have := (hown.lt k hk).1; simp; omega) _
      case measure =>
        have e1 := vlen_of HC.out.1 HC.out.2
        have e2 := vlen_new w4 (brk1 B m).px (brk1 B m).py (brk1 B m).vx (brk1 B m).vy
        rw [e1, e2]
        unfold Mo.len at hlt h0
        omega
end Go.Proofs.Ythfpdlkeagoamaa
