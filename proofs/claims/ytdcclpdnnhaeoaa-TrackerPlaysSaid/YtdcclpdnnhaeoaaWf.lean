/- Walks: the centres of a path of cells. -/
import Derived.Test.YtdcclpdnnhaeoaaWe
import Derived.Maps.AppendAt
import Derived.Deep.AppendLies
namespace Go.Proofs.Ytdcclpdnnhaeoaa
open Go.RowKit
set_option linter.unusedVariables false
theorem info34 : (Try.prog.info? 34).map (fun i => (i.zero, i.size, i.bytes)) = some (some (.agg #[.int .i64 0, .int .i64 0]), 2, 16) := by kernel_rfl
theorem cells2_new {w : World} {g : Nat} (hg : w.heap.size = g) (c0 c1 : Value) (t : TypeId) : ∀ (j : Nat) (u : Value), [c0, c1][j]? = some u → (w.alloc (.cells #[c0, c1] t)).cell? ((⟨g, 0, none⟩ : Addr).add j) = some u := by
  subst hg
  intro j u h
  have hb : (w.alloc (.cells #[c0, c1] t)).heap[w.heap.size]? = some (.cells #[c0, c1] t) := by
    show (w.heap.push _)[w.heap.size]? = _
    rw [Array.getElem?_push_size]
  have := (block_cells hb).1 j
  have ea : (⟨w.heap.size, 0, none⟩ : Addr).add j = ⟨w.heap.size, j, none⟩ := by
    unfold Addr.add
    split
    · rename_i h; subst h; rfl
    · simp
  rw [ea, this]
  simpa using h
theorem own_set {w : World} {base size n : Nat} {e : TypeId} {v : Value} {xs : List Value} (h : w.ownsRow base e size v n xs) {a : Addr} (hne : v.ownBlock ≠ some a.block) (u : Value) : (w.setCell a u).ownsRow base e size v n xs := by
  obtain ⟨h1, h2⟩ := h
  refine ⟨h1, ?_⟩
  rcases h2 with h2 | ⟨g, cap, cur, hv, hg, hh, r⟩
  · exact Or.inl h2
  · subst hv
    exact Or.inr ⟨g, cap, cur, rfl, hg, by rw [Below.heap_setCell _ _ _ _ (fun e => hne (by rw [← e]; rfl))]; exact hh, r⟩
theorem grown_far {w w' : World} {o : Obj} {g : Nat} {row : Option Nat} (hg : (w.alloc o).grownBy w' row) (hlt : g < w.heap.size) (hne : row ≠ some g) (k : Nat) : w'.cell? ⟨g, k, none⟩ = w.cell? ⟨g, k, none⟩ :=
  (World.cell?_of_block (w := w.alloc o) (hg.block g (by simp; omega) (Ne.symm hne))).trans (World.cell?_alloc_lt _ _ _ hlt)
theorem agg2_size : (Value.agg #[.int .i64 0, .int .i64 0]).cells.size = 2 := rfl
theorem alloc_size (w : World) (o : Obj) : (w.alloc o).heap.size = w.heap.size + 1 := by simp
theorem one2 (a b : Int) : ∀ u ∈ ([.int .i64 a, .int .i64 b] : List Value), u.oneCell' = true := by
  intro u hu
  simp at hu
  rcases hu with rfl | rfl <;> rfl
theorem below_app {W w3 w4 : World} {o : Obj} {row : Option Nat} (hb : Below W.heap.size W w3) (hgr : (w3.alloc o).grownBy w4 row) (hrow : ∀ k, row = some k → W.heap.size ≤ k) : Below W.heap.size W w4 :=
  (hb.alloc hb.size o).grown hgr ((hb.alloc hb.size o).size) hrow
/-- the cells of points -/
def flatP (X Y : Nat → Int) : Nat → List Value
  | 0 => []
  | k + 1 => flatP X Y k ++ [.int .i64 (X k), .int .i64 (Y k)]
theorem flatP_len (X Y : Nat → Int) : ∀ n, (flatP X Y n).length = n * 2
  | 0 => rfl
  | n + 1 => by simp [flatP, flatP_len X Y n]; omega
theorem flatP_get (X Y : Nat → Int) : ∀ (n i : Nat), i < n → (flatP X Y n)[i * 2]? = some (.int .i64 (X i)) ∧ (flatP X Y n)[i * 2 + 1]? = some (.int .i64 (Y i))
  | 0, i, h => by omega
  | n + 1, i, h => by
    have hl := flatP_len X Y n
    unfold flatP
    rcases Nat.lt_or_ge i n with h' | h'
    · rw [List.getElem?_append_left (by omega), List.getElem?_append_left (by omega)]
      exact flatP_get X Y n i h'
    · obtain rfl : i = n := by omega
      rw [List.getElem?_append_right (by omega), List.getElem?_append_right (by omega), hl, show i * 2 - i * 2 = 0 from by omega, show i * 2 + 1 - i * 2 = 1 from by omega]
      exact ⟨rfl, rfl⟩
/-- a slice that reads as n points -/
def RdP (w : World) (v : Value) (n : Nat) (X Y : Nat → Int) : Prop := ∃ a cap, v = .slice a n cap ∧ (0 < n → ∃ g, a = some ⟨g, 0, none⟩ ∧ g < w.heap.size ∧ ∀ i, i < n → w.cell? ⟨g, i * 2, none⟩ = some (.int .i64 (X i)) ∧ w.cell? ⟨g, i * 2 + 1, none⟩ = some (.int .i64 (Y i)))
theorem rdP_below {w w' : World} {v : Value} {n : Nat} {X Y : Nat → Int} (h : RdP w v n X Y) (hb : Below w.heap.size w w') : RdP w' v n X Y := by
  obtain ⟨a, cap, h1, h2⟩ := h
  refine ⟨a, cap, h1, fun hp => ?_⟩
  obtain ⟨g, h3, h4, h5⟩ := h2 hp
  refine ⟨g, h3, Nat.lt_of_lt_of_le h4 hb.size, fun i hi => ?_⟩
  obtain ⟨a0, a1⟩ := h5 i hi
  exact ⟨(hb.cell h4).trans a0, (hb.cell h4).trans a1⟩
theorem rdP_own {w : World} {base n : Nat} {v : Value} {X Y : Nat → Int} (h : w.ownsRow base 34 2 v n (flatP X Y n)) : RdP w v n X Y := by
  have h0 := h
  rcases h0.2 with ⟨rfl, rfl⟩ | ⟨g, cap, cur, rfl, _⟩
  · exact ⟨none, 0, rfl, fun h => absurd h (by omega)⟩
  · refine ⟨_, cap, rfl, fun hp => ?_⟩
    obtain ⟨g', cap', e1, _, hlt⟩ := h.form hp
    injection e1 with e1 e2 e3
    injection e1 with e1
    injection e1 with e1
    subst e1
    refine ⟨g, rfl, hlt, fun i hi => ?_⟩
    have k := flatP_get X Y n i hi
    exact ⟨(h.cellAt (i * 2) (by omega)).trans k.1, (h.cellAt (i * 2 + 1) (by omega)).trans k.2⟩
set_option maxHeartbeats 4000000 in
theorem waypoints_any (a : Option Addr) (len cap : Nat) (X Y : Nat → Int) (size : Int) (hlen : len ≤ 60) (w : World) (ha : Hid (Wants w a len X Y)) :
    Calls Try.prog 11 #[.slice a len cap, .int .i64 size] w fun e w' => ∃ v, e = .returned v ∧ RdP w' v len (fun i => ctrX (X i) (Y i) size) (fun i => ctrY (X i) (Y i) size) ∧ Below w.heap.size w w' := by
  obtain ⟨i0, hi, hz0, hz1, hz2⟩ := info_parts info34
  have hlen' : (len : Int) ≤ 60 := by omega
  go_enter Try.func11, Try.ntmps11
  go_wp2_with fail
  go_loopw [5, 10] (fun s5 s10 wr => ∃ (k : Nat), s10 = .int .i64 k ∧ k ≤ len ∧ wr.ownsRow w.heap.size 34 2 s5 k (flatP (fun i => ctrX (X i) (Y i) size) (fun i => ctrY (X i) (Y i) size) k) ∧ Below w.heap.size w wr) (fun _ s10 _ => len - (intOf s10).toNat)
  case atStart =>
    exact ⟨0, rfl, Nat.zero_le _, ⟨rfl, .inl ⟨rfl, rfl⟩⟩, Below.refl _ _⟩
  case round =>
    obtain ⟨k, rfl, hk, hown, hb⟩ := hrel
    by_cases hkT : k < len
    · obtain ⟨b, off, rfl, hbw, hcell⟩ := ha.out (by omega)
      obtain ⟨x0, x1⟩ := hcell k hkT
      clear hcell
      have x0' : wr.cell? ⟨b, off + k * 2, none⟩ = some (.int .i64 (X k)) := (hb.cell hbw).trans x0
      have x1' : wr.cell? ⟨b, off + k * 2 + 1, none⟩ = some (.int .i64 (Y k)) := (hb.cell hbw).trans x1
      clear x0 x1
      have hkI : (k : Int) < (len : Int) := by omega
      have hkI0 : (0 : Int) ≤ (k : Int) := by omega
      have HB := hid (fun w => center_any (X k) (Y k) size w)
      have HF : Hid (flatP (fun i => ctrX (X i) (Y i) size) (fun i => ctrY (X i) (Y i) size) (k + 1) = flatP (fun i => ctrX (X i) (Y i) size) (fun i => ctrY (X i) (Y i) size) k ++ [.int .i64 (ctrX (X k) (Y k) size), .int .i64 (ctrY (X k) (Y k) size)]) := hid rfl
      generalize flatP (fun i => ctrX (X i) (Y i) size) (fun i => ctrY (X i) (Y i) size) k = LK at *
      generalize ctrX (X k) (Y k) size = CX at *
      generalize ctrY (X k) (Y k) size = CY at *
      go_wp2_with (first
        | (go_at_call 12; (with_reducible refine (HB.out _).mono ?_); rintro e w3 ⟨rfl, hb3⟩; have hs3 := hb3.size; have hown3 := own_below (hown.alloc _) hb3; rw [alloc_size] at hs3)
        | (at_builtin; refine wpList_append_own_at _ rfl _ _ 23 rfl w.heap.size 34 i0 (.agg #[.int .i64 0, .int .i64 0]) 2 16 Try.underlying23 hi hz0 hz1 hz2 agg2_size (by decide) u5 k LK rfl (hown3.alloc _) ⟨w3.heap.size, 0, none⟩ 1 1 [.int .i64 CX, .int .i64 CY] rfl rfl (cells2_new rfl _ _ _) (one2 _ _) (by unfold maxLen; omega) (by omega) (by rw [alloc_size]; have := hb.size; omega) ?_
           intro v' w4 hown4 hgrow4 _ hat4; have HG := hid hgrow4; clear hgrow4))
      go_roundw
      case rel =>
        refine ⟨k + 1, by go_num, by omega, ?_, ?_⟩
        · rw [HF.out]; exact hown4
        · exact below_app ((hb.alloc hb.size _).trans (hb3.mono (Nat.le_trans hb.size (by rw [alloc_size]; omega)))) HG.out (fun k hk => (hown.lt k hk).1)
      case measure => simp [intOf]; omega
    · obtain rfl : k = len := by omega
      go_wp2_with fail
      go_ret
      exact ⟨_, rfl, rdP_own hown, hb⟩
end Go.Proofs.Ytdcclpdnnhaeoaa
