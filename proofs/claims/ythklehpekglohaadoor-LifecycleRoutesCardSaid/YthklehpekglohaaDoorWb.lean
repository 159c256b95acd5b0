/- Walks: the allowed transitions; two lists are the same. -/
import Derived.Test.YthklehpekglohaaDoorWa
import Derived.Test.YthklehpekglohaaDoorQuiet
import Derived.Maps.AppendAt
import Derived.Deep.AppendLies
import Derived.Deep.QuietTactic
namespace Go.Proofs.YthklehpekglohaaDoor
open Go.RowKit
set_option linter.unusedVariables false
set_option linter.unusedSimpArgs false
theorem info3 : (Tryd.prog.info? 3).map (fun i => (i.zero, i.size, i.bytes)) = some (some (.int .i64 0), 1, 8) := by kernel_rfl
theorem int_size : (Value.int .i64 0).cells.size = 1 := rfl
theorem alloc_size (w : World) (o : Obj) : (w.alloc o).heap.size = w.heap.size + 1 := by simp
theorem one1 (a : Int) : ∀ u ∈ ([.int .i64 a] : List Value), u.oneCell' = true := by
  intro u hu
  simp at hu
  subst hu
  rfl
theorem own_set {w : World} {base size n : Nat} {e : TypeId} {v : Value} {xs : List Value} (h : w.ownsRow base e size v n xs) {a : Addr} (hne : v.ownBlock ≠ some a.block) (u : Value) : (w.setCell a u).ownsRow base e size v n xs := by
  obtain ⟨h1, h2⟩ := h
  refine ⟨h1, ?_⟩
  rcases h2 with h2 | ⟨g, cap, cur, hv, hg, hh, r⟩
  · exact Or.inl h2
  · subst hv
    exact Or.inr ⟨g, cap, cur, rfl, hg, by rw [Below.heap_setCell _ _ _ _ (fun e => hne (by rw [← e]; rfl))]; exact hh, r⟩
theorem grown_far {w w' : World} {o : Obj} {g : Nat} {row : Option Nat} (hg : (w.alloc o).grownBy w' row) (hlt : g < w.heap.size) (hne : row ≠ some g) (k : Nat) : w'.cell? ⟨g, k, none⟩ = w.cell? ⟨g, k, none⟩ :=
  (World.cell?_of_block (w := w.alloc o) (hg.block g (by simp; omega) (Ne.symm hne))).trans (World.cell?_alloc_lt _ _ _ hlt)
theorem below_app {W w3 w4 : World} {o : Obj} {row : Option Nat} (hb : Below W.heap.size W w3) (hgr : (w3.alloc o).grownBy w4 row) (hrow : ∀ k, row = some k → W.heap.size ≤ k) : Below W.heap.size W w4 :=
  (hb.alloc hb.size o).grown hgr ((hb.alloc hb.size o).size) hrow
/-- the cells of integers -/
def ints (l : List Int) : List Value := l.map (.int .i64)
theorem ints_len (l : List Int) : (ints l).length = l.length := by simp [ints]
theorem ints_get {l : List Int} {i : Nat} {u : Int} (h : l[i]? = some u) : (ints l)[i]? = some (.int .i64 u) := by simp [ints, h]
theorem ints_app (l : List Int) (x : Int) : ints (l ++ [x]) = ints l ++ [.int .i64 x] := by simp [ints]
/-- a slice that reads as these integers -/
def RdI (w : World) (v : Value) (l : List Int) : Prop := ∃ a cap, v = .slice a l.length cap ∧ l.length ≤ cap ∧ l.length ≤ maxLen ∧ (0 < l.length → ∃ g off, a = some ⟨g, off, none⟩ ∧ g < w.heap.size ∧ ∀ i u, l[i]? = some u → w.cell? ⟨g, off + i, none⟩ = some (.int .i64 u))
theorem rdI_below {w w' : World} {v : Value} {l : List Int} (h : RdI w v l) (hb : Below w.heap.size w w') : RdI w' v l := by
  obtain ⟨a, cap, h1, h0, h9, h2⟩ := h
  refine ⟨a, cap, h1, h0, h9, fun hp => ?_⟩
  obtain ⟨g, off, h3, h4, h5⟩ := h2 hp
  exact ⟨g, off, h3, Nat.lt_of_lt_of_le h4 hb.size, fun i u e => (hb.cell h4).trans (h5 i u e)⟩
theorem rdI_own {w : World} {base : Nat} {v : Value} {l : List Int} (h : w.ownsRow base 3 1 v l.length (ints l)) (hm : l.length ≤ maxLen) : RdI w v l := by
  have h0 := h
  rcases h0.2 with ⟨rfl, e⟩ | ⟨g, cap, cur, rfl, _, _, hc, _⟩
  · exact ⟨none, 0, by rw [e], by omega, hm, fun h => absurd h (by omega)⟩
  · refine ⟨_, cap, rfl, hc, hm, fun hp => ?_⟩
    obtain ⟨g', cap', e1, _, hlt⟩ := h.form hp
    injection e1 with e1 e2 e3
    injection e1 with e1
    injection e1 with e1
    subst e1
    exact ⟨g, 0, rfl, hlt, fun i u e => by rw [Nat.zero_add]; exact (h.cellAt i (by rw [Nat.mul_one]; exact (List.getElem?_eq_some_iff.1 e).1)).trans (ints_get e)⟩
/-- the allowed transitions among the first -/
def alwN (s : Int) : Nat → List Int
  | 0 => []
  | k + 1 => if (nx s ((k : Int) + 1) true).2 = 0 then alwN s k ++ [(k : Int) + 1] else alwN s k
theorem alwN_len (s : Int) : ∀ k, (alwN s k).length ≤ k
  | 0 => Nat.le_refl _
  | k + 1 => by
    have := alwN_len s k
    unfold alwN
    split
    · simp; omega
    · omega
theorem alwN_out {s : Int} (h : s < 1 ∨ 4 < s) : ∀ k, alwN s k = []
  | 0 => rfl
  | k + 1 => by
    unfold alwN
    rw [nx_out (by omega), if_neg (by simp)]
    exact alwN_out h k
set_option maxHeartbeats 4000000 in
theorem allowed_any (s : Int) (w : World) (hR : Rules w) : Calls Tryd.prog 25 #[.int .i64 s] w fun e w' => ∃ v, e = .returned v ∧ w'.ownsRow w.heap.size 3 1 v (alwN s 5).length (ints (alwN s 5)) ∧ Below w.heap.size w w' := by
  obtain ⟨i0, hi, hz0, hz1, hz2⟩ := info_parts info3
  have hpos := hR.pos
  have HRH := hid hR
  go_enter Tryd.func25, Tryd.ntmps25
  go_wp2_with fail
  go_loopw [3, 4, 5, 6] (fun s3 s4 s5 s6 wr => ∃ (k : Nat), s4 = .int .i64 ((k : Int) + 1) ∧ k ≤ 5 ∧ wr.ownsRow w.heap.size 3 1 s3 (alwN s k).length (ints (alwN s k)) ∧ Below w.heap.size w wr) (fun _ s4 _ _ _ => 6 - (intOf s4).toNat)
  case atStart => exact ⟨0, rfl, by omega, ⟨rfl, .inl ⟨rfl, rfl⟩⟩, Below.refl _ _⟩
  case round =>
    obtain ⟨k, rfl, hk, hown, hb⟩ := hrel
    by_cases hkT : k < 5
    · have hkI : (k : Int) + 1 ≤ 5 := by omega
      have HR := hid (HRH.out.below hpos hb)
      have hln := alwN_len s k
      have hws := hb.size
      by_cases he : (nx s ((k : Int) + 1) true).2 = 0
      · have HF : Hid (alwN s (k + 1) = alwN s k ++ [(k : Int) + 1]) := hid (by show (if _ then _ else _) = _; rw [if_pos he])
        have HB := hid (fun w (hR : Rules w) => next_any s ((k : Int) + 1) true w hR)
        rw [he] at HB
        clear he
        generalize alwN s k = LK at *
        go_wp2_with (first
          | (go_at_call 23; (with_reducible refine (HB.out _ HR.out).mono ?_); rintro e w3 ⟨rfl, hb3⟩; have hs3 := hb3.size; have hown3 := own_below hown hb3)
          | (at_builtin; refine wpList_append_own_at _ rfl _ _ 22 rfl w.heap.size 3 i0 (.int .i64 0) 1 8 Tryd.underlying22 hi hz0 hz1 hz2 int_size (by decide) u3 LK.length (ints LK) rfl (hown3.alloc _) ⟨w3.heap.size, 0, none⟩ 1 1 [.int .i64 ((k : Int) + 1)] rfl rfl (cell_one_new _ _ _) (one1 _) (by unfold maxLen; omega) (by omega) (by rw [alloc_size]; omega) ?_
             intro v' w4 hown4 hgrow4 _ hat4; have HG := hid hgrow4; clear hgrow4))
        go_roundw
        case rel =>
          refine ⟨k + 1, by go_num, by omega, ?_, ?_⟩
          · rw [HF.out, ints_app]; simpa using hown4
          · exact below_app (hb.trans (hb3.mono hb.size)) HG.out (fun k hk => (hown.lt k hk).1)
        case measure => simp [intOf]; omega
      · have HF : Hid (alwN s (k + 1) = alwN s k) := hid (by show (if _ then _ else _) = _; rw [if_neg he])
        have HB := hid (fun w (hR : Rules w) => next_any s ((k : Int) + 1) true w hR)
        generalize (nx s ((k : Int) + 1) true).2 = E at *
        generalize alwN s k = LK at *
        go_wp2_with (first
          | (go_at_call 23; (with_reducible refine (HB.out _ HR.out).mono ?_); rintro e w3 ⟨rfl, hb3⟩; have hs3 := hb3.size; have hown3 := own_below hown hb3))
        go_roundw
        case rel =>
          refine ⟨k + 1, by go_num, by omega, ?_, ?_⟩
          · rw [HF.out]; exact hown3
          · exact hb.trans (hb3.mono hb.size)
        case measure => simp [intOf]; omega
    · obtain rfl : k = 5 := by omega
      go_wp2_with fail
      go_ret
      exact ⟨_, rfl, hown, hb⟩
theorem rnext_b (s t : Int) (ok : Bool) (w : World) : Calls Tryd.prog 24 #[.int .i64 s, .int .i64 t, .bool ok] w fun e w' => e = .returned (.tuple #[.int .i64 (nx s t ok).1, .int .i64 (nx s t ok).2]) ∧ Below w.heap.size w w' :=
  (rnext_any s t ok w).mono fun e w' h => ⟨h.1, by rw [h.2]; exact Below.refl _ _⟩
set_option maxHeartbeats 4000000 in
theorem rallowed_any (s : Int) (w : World) : Calls Tryd.prog 26 #[.int .i64 s] w fun e w' => ∃ v, e = .returned v ∧ w'.ownsRow w.heap.size 3 1 v (alwN s 5).length (ints (alwN s 5)) ∧ Below w.heap.size w w' := by
  obtain ⟨i0, hi, hz0, hz1, hz2⟩ := info_parts info3
  go_enter Tryd.func26, Tryd.ntmps26
  go_wp2_with fail
  go_loopw [3, 4, 5, 6] (fun s3 s4 s5 s6 wr => ∃ (k : Nat), s4 = .int .i64 ((k : Int) + 1) ∧ k ≤ 5 ∧ wr.ownsRow w.heap.size 3 1 s3 (alwN s k).length (ints (alwN s k)) ∧ Below w.heap.size w wr) (fun _ s4 _ _ _ => 6 - (intOf s4).toNat)
  case atStart => exact ⟨0, rfl, by omega, ⟨rfl, .inl ⟨rfl, rfl⟩⟩, Below.refl _ _⟩
  case round =>
    obtain ⟨k, rfl, hk, hown, hb⟩ := hrel
    by_cases hkT : k < 5
    · have hkI : (k : Int) + 1 ≤ 5 := by omega
      have hln := alwN_len s k
      have hws := hb.size
      by_cases he : (nx s ((k : Int) + 1) true).2 = 0
      · have HF : Hid (alwN s (k + 1) = alwN s k ++ [(k : Int) + 1]) := hid (by show (if _ then _ else _) = _; rw [if_pos he])
        have HB := hid (fun w => rnext_b s ((k : Int) + 1) true w)
        rw [he] at HB
        clear he
        generalize alwN s k = LK at *
        go_wp2_with (first
          | (go_at_call 24; (with_reducible refine (HB.out _).mono ?_); rintro e w3 ⟨rfl, hb3⟩; have hs3 := hb3.size; have hown3 := own_below hown hb3)
          | (at_builtin; refine wpList_append_own_at _ rfl _ _ 22 rfl w.heap.size 3 i0 (.int .i64 0) 1 8 Tryd.underlying22 hi hz0 hz1 hz2 int_size (by decide) u3 LK.length (ints LK) rfl (hown3.alloc _) ⟨w3.heap.size, 0, none⟩ 1 1 [.int .i64 ((k : Int) + 1)] rfl rfl (cell_one_new _ _ _) (one1 _) (by unfold maxLen; omega) (by omega) (by rw [alloc_size]; omega) ?_
             intro v' w4 hown4 hgrow4 _ hat4; have HG := hid hgrow4; clear hgrow4))
        go_roundw
        case rel =>
          refine ⟨k + 1, by go_num, by omega, ?_, ?_⟩
          · rw [HF.out, ints_app]; simpa using hown4
          · exact below_app (hb.trans (hb3.mono hb.size)) HG.out (fun k hk => (hown.lt k hk).1)
        case measure => simp [intOf]; omega
      · have HF : Hid (alwN s (k + 1) = alwN s k) := hid (by show (if _ then _ else _) = _; rw [if_neg he])
        have HB := hid (fun w => rnext_b s ((k : Int) + 1) true w)
        generalize (nx s ((k : Int) + 1) true).2 = E at *
        generalize alwN s k = LK at *
        go_wp2_with (first
          | (go_at_call 24; (with_reducible refine (HB.out _).mono ?_); rintro e w3 ⟨rfl, hb3⟩; have hs3 := hb3.size; have hown3 := own_below hown hb3))
        go_roundw
        case rel =>
          refine ⟨k + 1, by go_num, by omega, ?_, ?_⟩
          · rw [HF.out]; exact hown3
          · exact hb.trans (hb3.mono hb.size)
        case measure => simp [intOf]; omega
    · obtain rfl : k = 5 := by omega
      go_wp2_with fail
      go_ret
      exact ⟨_, rfl, hown, hb⟩
theorem same_len {a b : List Int} (h : a.length ≠ b.length) : decide (a = b) = false := decide_eq_false (fun e => h (by rw [e]))
set_option maxHeartbeats 4000000 in
theorem same_any (v1 v2 : Value) (l1 l2 : List Int) (w : World) (h1 : RdI w v1 l1) (h2 : RdI w v2 l2) : Calls Tryd.prog 9 #[v1, v2] w fun e w' => e = .returned (.bool (decide (l1 = l2))) ∧ Below w.heap.size w w' := by
  obtain ⟨a1, cap1, rfl, -, hm1, hr1⟩ := h1
  obtain ⟨a2, cap2, rfl, -, hm2, hr2⟩ := h2
  have H1 := hid hr1
  have H2 := hid hr2
  clear hr1 hr2
  have hM : maxLen ≤ 9223372036854775807 := by decide
  by_cases hlen : l1.length = l2.length
  · have hlI : (l1.length : Int) = (l2.length : Int) := by omega
    go_enter Tryd.func9, Tryd.ntmps9
    go_wp2_with fail
    go_loopw [5] (fun s5 wr => ∃ k : Nat, s5 = .int .i64 k ∧ k ≤ l1.length ∧ (∀ i, i < k → l1[i]? = l2[i]?) ∧ Below w.heap.size w wr) (fun s5 _ => l1.length - (intOf s5).toNat)
    case atStart => exact ⟨0, rfl, Nat.zero_le _, fun i h => by omega, Below.refl _ _⟩
    case round =>
      obtain ⟨k, rfl, hk, heq, hb⟩ := hrel
      have HE := hid heq
      clear heq
      by_cases hkT : k < l1.length
      · obtain ⟨b1, o1, rfl, hbw1, hc1⟩ := H1.out (by omega)
        obtain ⟨b2, o2, rfl, hbw2, hc2⟩ := H2.out (by omega)
        have g1 : l1[k]? = some l1[k] := by simp [hkT]
        have g2 : l2[k]? = some (l2[k]'(by omega)) := by simp [show k < l2.length from by omega]
        have x1 := hc1 k _ g1
        have x2 := hc2 k _ g2
        have HG1 := hid g1
        have HG2 := hid g2
        clear hc1 hc2 g1 g2
        generalize l1[k] = A at *
        generalize (l2[k]'(by omega)) = B at *
        have hkI : (k : Int) < (l1.length : Int) := by omega
        have hkI2 : (k : Int) < (l2.length : Int) := by omega
        have hkI0 : (0 : Int) ≤ (k : Int) := by omega
        have hs := hb.size
        have r1 : ∀ (z : Later wr), z.val.cell? ⟨b1, o1 + k, none⟩ = some (.int .i64 A) := fun z => (z.cell (by omega)).trans ((hb.cell hbw1).trans x1)
        have r2 : ∀ (z : Later wr), z.val.cell? ⟨b2, o2 + k, none⟩ = some (.int .i64 B) := fun z => (z.cell (by omega)).trans ((hb.cell hbw2).trans x2)
        clear x1 x2
        by_cases hAB : A = B
        · go_wp2_with fail
          refine wp_region_later (w0 := wr) (Below.refl _ _) (by kernel_rfl) (by kernel_rfl) ?_
          repeat (go_big_quiet_step (fail))
          refine wpQuiet_nil ?_
          intro _ hw'
          obtain ⟨z0, hw''⟩ := hw'
          subst hw''
          go_wp2_with fail
          go_roundw
          case rel =>
            refine ⟨k + 1, by go_num, by omega, fun i hi => ?_, hb.trans (z0.ok.mono hs)⟩
            rcases Nat.lt_or_ge i k with h | h
            · exact HE.out i h
            · obtain rfl : i = k := by omega
              rw [HG1.out, HG2.out, hAB]
          case measure => simp [intOf] <;> omega
        · have hne : decide (l1 = l2) = false := decide_eq_false (fun e => hAB (by have a := HG1.out; rw [e, HG2.out] at a; injection a with a; exact a.symm))
          have HNE := hid hne
          clear hne
          go_wp2_with fail
          refine wp_region_later (w0 := wr) (Below.refl _ _) (by kernel_rfl) (by kernel_rfl) ?_
          repeat (go_big_quiet_step (fail))
          refine wpQuiet_nil ?_
          intro _ hw'
          obtain ⟨z0, hw''⟩ := hw'
          subst hw''
          go_wp2_with fail
          go_ret
          exact ⟨ret_bool HNE.out.symm, hb.trans (z0.ok.mono hs)⟩
      · obtain rfl : k = l1.length := by omega
        have hyes : decide (l1 = l2) = true := by
          refine decide_eq_true (List.ext_getElem? fun i => ?_)
          rcases Nat.lt_or_ge i l1.length with h | h
          · exact HE.out i h
          · rw [List.getElem?_eq_none h, List.getElem?_eq_none (by omega)]
        have HY := hid hyes
        clear hyes
        go_wp2_with fail
        go_ret
        exact ⟨ret_bool HY.out.symm, hb⟩
  · rw [same_len hlen]
    have hlI : (l1.length : Int) ≠ (l2.length : Int) := by omega
    go_enter Tryd.func9, Tryd.ntmps9
    go_wp2_with fail
    go_ret
    exact ⟨rfl, Below.refl _ _⟩
end Go.Proofs.YthklehpekglohaaDoor
