/- Memory: a slice of points of the law's own, the persons' walks. -/
import Derived.Test.YtfcianhmfpenhaaXl
import Derived.Test.YtfcianhmfpenhaaXm
import Derived.Test.YtfcianhmfpenhaaFrameW
import Derived.Maps.AppendAt
import Derived.Deep.AppendLies
namespace Go.Proofs.Ytfcianhmfpenhaa
open Go.RowKit Go.Maps
set_option linter.unusedVariables false
set_option linter.unusedSimpArgs false
theorem info35 : (Try.prog.info? 35).map (fun i => (i.zero, i.size, i.bytes)) = some (some (.agg #[.int .i64 0, .int .i64 0]), 2, 16) := by kernel_rfl
theorem cells2_new {w : World} {g : Nat} (hg : w.heap.size = g) (c0 c1 : Value) (t : TypeId) : ∀ (j : Nat) (u : Value), [c0, c1][j]? = some u → (w.alloc (.cells #[c0, c1] t)).cell? ((⟨g, 0, none⟩ : Addr).add j) = some u := by
  subst hg
  intro j u h
  have hb : (w.alloc (.cells #[c0, c1] t)).heap[w.heap.size]? = some (.cells #[c0, c1] t) := by
    show (w.heap.push _)[w.heap.size]? = _
    rw [Array.getElem?_push_size]
  have := (block_cells hb).1 j
  have ea : (⟨w.heap.size, 0, none⟩ : Addr).add j = ⟨w.heap.size, j, none⟩ := by
    unfold Addr.add
    split
    · rename_i h; subst h; rfl
    · simp
  rw [ea, this]
  simpa using h
theorem agg2_size : (Value.agg #[.int .i64 0, .int .i64 0]).cells.size = 2 := rfl
theorem alloc_size (w : World) (o : Obj) : (w.alloc o).heap.size = w.heap.size + 1 := by simp
theorem one2 (a b : Int) : ∀ u ∈ ([.int .i64 a, .int .i64 b] : List Value), u.oneCell' = true := by
  intro u hu
  simp at hu
  rcases hu with rfl | rfl <;> rfl
theorem below_app {W w3 w4 : World} {o : Obj} {row : Option Nat} (hb : Below W.heap.size W w3) (hgr : (w3.alloc o).grownBy w4 row) (hrow : ∀ k, row = some k → W.heap.size ≤ k) : Below W.heap.size W w4 :=
  (hb.alloc hb.size o).grown hgr ((hb.alloc hb.size o).size) hrow
/-- the cells of points -/
def flatP (X Y : Nat → Int) : Nat → List Value
  | 0 => []
  | k + 1 => flatP X Y k ++ [.int .i64 (X k), .int .i64 (Y k)]
theorem flatP_len (X Y : Nat → Int) : ∀ n, (flatP X Y n).length = n * 2
  | 0 => rfl
  | n + 1 => by simp [flatP, flatP_len X Y n]; omega
theorem flatP_get (X Y : Nat → Int) : ∀ (n i : Nat), i < n → (flatP X Y n)[i * 2]? = some (.int .i64 (X i)) ∧ (flatP X Y n)[i * 2 + 1]? = some (.int .i64 (Y i))
  | 0, i, h => by omega
  | n + 1, i, h => by
    have hl := flatP_len X Y n
    unfold flatP
    rcases Nat.lt_or_ge i n with h' | h'
    · rw [List.getElem?_append_left (by omega), List.getElem?_append_left (by omega)]
      exact flatP_get X Y n i h'
    · obtain rfl : i = n := by omega
      rw [List.getElem?_append_right (by omega), List.getElem?_append_right (by omega), hl, show i * 2 - i * 2 = 0 from by omega, show i * 2 + 1 - i * 2 = 1 from by omega]
      exact ⟨rfl, rfl⟩
theorem ce_same {w : World} {a : Addr} {u : Value} (v : Value) (h : w.cell? a = some u) : (w.setCell a v).cell? a = some v := by
  first | exact World.cell?_setCell_same _ _ _ h | exact World.cell?_setCell_same h
theorem ce_other {w : World} {a b : Addr} (v : Value) (h : a ≠ b) : (w.setCell a v).cell? b = w.cell? b := by
  first | exact World.cell?_setCell_other _ _ _ _ h | exact World.cell?_setCell_other _ _ _ h | exact World.cell?_setCell_other h
theorem ad_ne {g m n : Nat} (h : m ≠ n) : (⟨g, m, none⟩ : Addr) ≠ ⟨g, n, none⟩ := fun e => h (congrArg Addr.off e)
/-- positions of persons in a block of the law's own -/
structure At (w : World) (g o len : Nat) (X Y : Nat → Int) : Prop where
  lt : 0 < len → g < w.heap.size
  c : ∀ i, i < len → w.cell? ⟨g, o + i * 2, none⟩ = some (.int .i64 (X i)) ∧ w.cell? ⟨g, o + i * 2 + 1, none⟩ = some (.int .i64 (Y i)) ∧ w.frozen? ⟨g, o + i * 2, none⟩ = false ∧ w.frozen? ⟨g, o + i * 2 + 1, none⟩ = false
theorem At.kept {w w' : World} {g o len : Nat} {X Y : Nat → Int} (h : At w g o len X Y) (hs : w.heap.size ≤ w'.heap.size) (hb : 0 < len → w'.heap[g]? = w.heap[g]?) : At w' g o len X Y :=
  ⟨fun hp => Nat.lt_of_lt_of_le (h.lt hp) hs, fun i hi => by
    have e := hb (by omega)
    obtain ⟨a, b, c, d⟩ := h.c i hi
    exact ⟨(World.cell?_of_block e).trans a, (World.cell?_of_block e).trans b, (World.frozen?_of_block e).trans c, (World.frozen?_of_block e).trans d⟩⟩
theorem At.below {w w' : World} {g o len : Nat} {X Y : Nat → Int} (h : At w g o len X Y) (hb : Below w.heap.size w w') : At w' g o len X Y :=
  h.kept hb.size (fun hp => hb.block g (h.lt hp))
theorem At.grown {w w' : World} {g o len s : Nat} {X Y : Nat → Int} (h : At w g o len X Y) (hg : w.grownBy w' (some s)) (hne : g ≠ s) : At w' g o len X Y :=
  h.kept hg.size (fun hp => hg.block g (h.lt hp) (fun e => hne (by simpa using e)))
theorem At.set {w : World} {g o len k : Nat} {X Y : Nat → Int} (h : At w g o len X Y) (hk : k < len) (x y : Int) : At ((w.setCell ⟨g, o + k * 2, none⟩ (.int .i64 x)).setCell ⟨g, o + k * 2 + 1, none⟩ (.int .i64 y)) g o len (updN X k x) (updN Y k y) := by
  refine ⟨fun hp => by rw [set_sz, set_sz]; exact h.lt hp, fun i hi => ?_⟩
  obtain ⟨a, b, c, d⟩ := h.c i hi
  refine ⟨?_, ?_, by rw [setF, setF]; exact c, by rw [setF, setF]; exact d⟩
  · by_cases e : i = k
    · subst e
      rw [ce_other _ (ad_ne (by omega)), updN_same]
      exact ce_same _ a
    · rw [ce_other _ (ad_ne (by omega)), ce_other _ (ad_ne (by omega)), updN_ne e]
      exact a
  · by_cases e : i = k
    · subst e
      rw [updN_same]
      refine ce_same (u := .int .i64 (Y i)) _ ?_
      rw [ce_other _ (ad_ne (by omega))]
      exact b
    · rw [ce_other _ (ad_ne (by omega)), ce_other _ (ad_ne (by omega)), updN_ne e]
      exact b
theorem at_own {w : World} {base n : Nat} {v : Value} {X Y : Nat → Int} (h : w.ownsRow base 35 2 v n (flatP X Y n)) : ∃ a cap g, v = .slice a n cap ∧ (0 < n → a = some ⟨g, 0, none⟩) ∧ base ≤ g ∧ At w g 0 n X Y := by
  have h0 := h
  rcases h0.2 with ⟨rfl, rfl⟩ | ⟨g, cap, cur, rfl, hbg, _⟩
  · exact ⟨none, 0, base, rfl, fun h => absurd h (by omega), Nat.le_refl _, ⟨fun h => absurd h (by omega), fun i h => absurd h (by omega)⟩⟩
  · refine ⟨_, cap, g, rfl, fun _ => rfl, hbg, ⟨fun hp => ?_, fun i hi => ?_⟩⟩
    · obtain ⟨g', cap', e1, _, hlt⟩ := h.form hp
      injection e1 with e1 e2 e3
      injection e1 with e1
      injection e1 with e1
      subst e1
      exact hlt
    · have k := flatP_get X Y n i hi
      rw [Nat.zero_add]
      exact ⟨(h.cellAt (i * 2) (by omega)).trans k.1, (h.cellAt (i * 2 + 1) (by omega)).trans k.2, h.frozenAt _, h.frozenAt _⟩
/-- walks in memory -/
def Wks (w : World) (ga : Option Addr) (len : Nat) (SX SY : Nat → Int) (MA : Nat → Option Addr) (MN MC : Nat → Nat) (MX MY : Nat → Nat → Int) : Prop := 0 < len → ∃ b off, ga = some ⟨b, off, none⟩ ∧ b < w.heap.size ∧ ∀ i, i < len →
  w.cell? ⟨b, off + i * 3, none⟩ = some (.int .i64 (SX i)) ∧ w.cell? ⟨b, off + i * 3 + 1, none⟩ = some (.int .i64 (SY i)) ∧ w.cell? ⟨b, off + i * 3 + 2, none⟩ = some (.slice (MA i) (MN i) (MC i)) ∧ MN i ≤ maxLen ∧ Wants w (MA i) (MN i) (MX i) (MY i)
theorem wks_of {w : World} {ga : Option Addr} {len : Nat} {F : Nat → Wlk} (h : 0 < len → ∃ b off, ga = some ⟨b, off, none⟩ ∧ b < w.heap.size ∧ ∀ i, i < len → WlkAt w ⟨b, off + i * 3, none⟩ (F i)) : Wks w ga len (fun i => (F i).x) (fun i => (F i).y) (fun i => (F i).a) (fun i => (F i).n) (fun i => (F i).c) (fun i => (F i).X) (fun i => (F i).Y) := fun hp => by
  obtain ⟨b, off, e, hb, hc⟩ := h hp
  refine ⟨b, off, e, hb, fun i hi => ?_⟩
  obtain ⟨c0, c1, c2, h1, h2⟩ := hc i hi
  rw [add_plain] at c0 c1 c2
  exact ⟨c0, c1, c2, h1, h2⟩
end Go.Proofs.Ytfcianhmfpenhaa
