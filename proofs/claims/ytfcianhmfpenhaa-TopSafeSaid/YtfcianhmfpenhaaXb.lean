/- Walks: the map of persons, and the list of its keys. -/
import Derived.Test.YtfcianhmfpenhaaXs
import Derived.Maps.OwnOps
import Derived.Maps.OwnSet
import Derived.Maps.RangeWalk
import Derived.Maps.AppendAt
import Derived.Sort.OwnSortedInts
namespace Go.Proofs.Ytfcianhmfpenhaa
open Go.RowKit Go.Maps Go.Sort
set_option linter.unusedVariables false
set_option linter.unusedSimpArgs false
theorem law3 : Keyed Try.prog 3 := int_keyed Try.underlying3
theorem info3 : (Try.prog.info? 3).map (fun i => (i.zero, i.size, i.bytes)) = some (some (.int .i64 0), 1, 8) := by kernel_rfl
theorem zero68 (w : World) : (zeroValue 68).run Try.prog w = .ok (pers 0 0 0) w := by kernel_rfl
/-- how a person is read -/
def persD (a x y : Int) : DataW Unit := .agg [.lit (.int .i64 a), .lit (.int .i64 x), .lit (.int .i64 y)]
def persR (v : Value) : Option (DataW Unit × List MemPlace) :=
  match v with
  | .agg cs => match cs.toList with
    | [.int .i64 a, .int .i64 x, .int .i64 y] => some (persD a x y, [])
    | _ => none
  | _ => none
theorem persR_mk (a x y : Int) : persR (pers a x y) = some (persD a x y, []) := rfl
theorem persR_inv {v : Value} {z : DataW Unit × List MemPlace} (h : persR v = some z) : ∃ a x y, v = pers a x y ∧ z = (persD a x y, []) := by
  unfold persR at h
  split at h
  · rename_i cs
    split at h
    · rename_i a x y e
      refine ⟨a, x, y, ?_, by simpa using h.symm⟩
      have : cs = #[.int .i64 a, .int .i64 x, .int .i64 y] := by rw [← Array.toArray_toList (xs := cs), e]
      rw [this]
    · cases h
  · cases h
theorem persD_inj {a x y a' x' y' : Int} (h : persD a x y = persD a' x' y') : a = a' ∧ x = x' ∧ y = y' := by
  unfold persD at h
  simp only [DataW.agg.injEq, List.cons.injEq, DataW.lit.injEq, Lit.int.injEq, and_true, true_and] at h
  exact h
abbrev wf64 (i : Int) : Prop := (Lit.int .i64 i).wf = true
/-- what the map holds, key by key -/
def Rep (D : DataW Unit) (f : Int → Option (Int × Int × Int)) : Prop :=
  IsMap D ∧ ∀ i, wf64 i → (f i = none → has D (.int .i64 i) = false) ∧ (∀ a x y, f i = some (a, x, y) → has D (.int .i64 i) = true ∧ ∀ zd, D.atKey (.int .i64 i) zd = persD a x y)
def upd1 (f : Int → Option (Int × Int × Int)) (i : Int) (p : Int × Int × Int) : Int → Option (Int × Int × Int) := fun j => if j = i then some p else f j
theorem upd1_same (f : Int → Option (Int × Int × Int)) (i : Int) (p : Int × Int × Int) : upd1 f i p i = some p := if_pos rfl
theorem upd1_ne {f : Int → Option (Int × Int × Int)} {i j : Int} {p : Int × Int × Int} (h : j ≠ i) : upd1 f i p j = f j := if_neg h
theorem key3 {i : Int} (h : wf64 i) : keyOf Try.prog 3 (.int .i64 i) = some (.int .i64 i) := keyOf_int_mk Try.underlying3 h
theorem Rep.put {D : DataW Unit} {f : Int → Option (Int × Int × Int)} (h : Rep D f) {i : Int} (hi : wf64 i) (a x y : Int) : Rep (D.put (.int .i64 i) (persD a x y)) (upd1 f i (a, x, y)) := by
  refine ⟨h.1.put _ _, fun j hj => ?_⟩
  by_cases e : j = i
  · subst e
    refine ⟨fun h' => (by rw [upd1_same] at h'; cases h'), fun a' x' y' h' => ?_⟩
    rw [upd1_same] at h'
    cases h'
    exact ⟨has_put_same h.1 (law3.key (key3 hi)) _, fun zd => atKey_put_same h.1 (law3.key (key3 hi)) _ zd⟩
  · have hne : (Lit.int .i64 j) ≠ Lit.int .i64 i := fun e' => e (by simpa using e')
    rw [upd1_ne e, has_put_other hne]
    refine ⟨(h.2 j hj).1, fun a' x' y' h' => ⟨((h.2 j hj).2 a' x' y' h').1, fun zd => ?_⟩⟩
    rw [atKey_put_other hne]
    exact ((h.2 j hj).2 a' x' y' h').2 zd
theorem Rep.some_of {D : DataW Unit} {f : Int → Option (Int × Int × Int)} (h : Rep D f) {i : Int} (hi : wf64 i) (hh : has D (.int .i64 i) = true) : ∃ a x y, f i = some (a, x, y) := by
  cases e : f i with
  | none => rw [(h.2 i hi).1 e] at hh; cases hh
  | some p => exact ⟨p.1, p.2.1, p.2.2, rfl⟩
/-- the record of persons in memory -/
structure Per (w : World) (pb mb : Nat) (H kp : Int) (n : Nat) (f : Int → Option (Int × Int × Int)) : Prop where
  lt : pb < w.heap.size
  c0 : w.cell? ⟨pb, 0, none⟩ = some (.int .i64 H)
  c1 : w.cell? ⟨pb, 1, none⟩ = some (.int .i64 kp)
  c2 : w.cell? ⟨pb, 2, none⟩ = some (.map (some mb))
  map : ∃ D, w.ownsMap Try.prog 3 persR mb n D ∧ Rep D f
theorem Per.mlt {w : World} {pb mb : Nat} {H kp : Int} {n : Nat} {f : Int → Option (Int × Int × Int)} (h : Per w pb mb H kp n f) : mb < w.heap.size := by
  obtain ⟨D, hD, _⟩ := h.map
  exact hD.lt
theorem map_kept {w w' : World} {P : Program} {k : TypeId} {R : Value → Option (DataW Unit × List MemPlace)} {b n : Nat} {D : DataW Unit} (h : w.ownsMap P k R b n D) (hb : w'.heap[b]? = w.heap[b]?) : w'.ownsMap P k R b n D := by
  obtain ⟨es, clock, hh, r⟩ := h
  exact ⟨es, clock, hb.trans hh, r⟩
theorem Per.kept {w w' : World} {pb mb : Nat} {H kp : Int} {n : Nat} {f : Int → Option (Int × Int × Int)} (h : Per w pb mb H kp n f) (hs : w.heap.size ≤ w'.heap.size) (hb : w'.heap[pb]? = w.heap[pb]?) (hm : w'.heap[mb]? = w.heap[mb]?) : Per w' pb mb H kp n f where
  lt := Nat.lt_of_lt_of_le h.lt hs
  c0 := (World.cell?_of_block hb).trans h.c0
  c1 := (World.cell?_of_block hb).trans h.c1
  c2 := (World.cell?_of_block hb).trans h.c2
  map := by
    obtain ⟨D, hD, hr⟩ := h.map
    exact ⟨D, map_kept hD hm, hr⟩
theorem Per.below {w w' : World} {pb mb : Nat} {H kp : Int} {n : Nat} {f : Int → Option (Int × Int × Int)} (h : Per w pb mb H kp n f) (hb : Below w.heap.size w w') : Per w' pb mb H kp n f :=
  h.kept hb.size (hb.block pb h.lt) (hb.block mb h.mlt)
/-- a look-up, ahead of a walk -/
theorem Per.look {w : World} {pb mb : Nat} {H kp : Int} {n : Nat} {f : Int → Option (Int × Int × Int)} (h : Per w pb mb H kp n f) {i a x y : Int} (hi : wf64 i) (hf : f i = some (a, x, y)) :
    (Instr.lookup 64 (.map (some mb)) (.int .i64 i) false).run Try.prog w = .ok (pers a x y) w := by
  obtain ⟨D, hD, hr⟩ := h.map
  obtain ⟨v, ps, hrun, hv⟩ := hD.lookup law3 Try.underlying64 (zero68 w) (persR_mk 0 0 0) (key3 hi)
  rw [((hr.2 i hi).2 a x y hf).2] at hv
  obtain ⟨a', x', y', rfl, e⟩ := persR_inv hv
  simp only [Prod.mk.injEq] at e
  obtain ⟨rfl, rfl, rfl⟩ := persD_inj e.1
  exact hrun
/-- the keys met so far -/
def Coll (D : DataW Unit) (left : Lit → Bool) (ss : List Int) : Prop := (∀ x ∈ ss, wf64 x) ∧ ∀ x, wf64 x → (x ∈ ss ↔ (has D (.int .i64 x) = true ∧ left (.int .i64 x) = false))
theorem Coll.start (D : DataW Unit) : Coll D (has D) [] := ⟨fun x hx => (by cases hx), fun x _ => (by cases has D (.int .i64 x) <;> simp)⟩
theorem Coll.step {D : DataW Unit} {left : Lit → Bool} {ss : List Int} (h : Coll D left ss) {x : Int} {y : DataW Unit} (hw : wf64 x) (hlk : left (.int .i64 x) = true) (hat : ∀ zd, D.atKey (.int .i64 x) zd = y) : Coll D (fun z => left z && !z.sameKey (.int .i64 x)) (ss ++ [x]) := by
  refine ⟨fun z hz => ?_, fun z hz => ?_⟩
  · rcases List.mem_append.1 hz with h1 | h1
    · exact h.1 z h1
    · rw [List.mem_singleton.1 h1]; exact hw
  · by_cases e : z = x
    · subst e
      simp [has_true_of_atKey hat, WideAt.sameKey_self (law3.key (key3 hw))]
    · have hne : (Lit.int .i64 z) ≠ Lit.int .i64 x := fun e' => e (by simpa using e')
      simp [sameKey_ne hne, e]
      simpa using h.2 z hz
set_option maxRecDepth 100000 in
set_option maxHeartbeats 1000000 in
theorem list_any {pb mb : Nat} {H kp : Int} {n : Nat} {f : Int → Option (Int × Int × Int)} (w : World) (P0 : Hid (Per w pb mb H kp n f)) (hn : n ≤ 1000) :
    Calls Try.prog 35 #[.pointer (some ⟨pb, 0, none⟩)] w fun e w' => ∃ (v : Value) (ss : List Int), e = .returned v ∧ w'.ownsRow w.heap.size 3 1 v ss.length (ss.map (Value.int .i64)) ∧ (∀ x ∈ ss, wf64 x) ∧ (∀ i, wf64 i → (i ∈ ss ↔ ∃ a x y, f i = some (a, x, y))) ∧ ss.length ≤ n ∧ Below w.heap.size w w' := by
  obtain ⟨i0, hi, hz0, hz1, hz2⟩ := info_parts info3
  obtain ⟨plt, c0, c1, c2, D, hown, hrep⟩ := P0.out
  have hbl := hown.lt
  have hsz := hown.size_le
  clear P0 c0 c1
  have HR := hid hrep
  clear hrep
  go_enter Try.func35, Try.ntmps35
  go_wp2_with (first
    | (at_range; refine wpList_range_own _ rfl _ 64 rfl 3 68 law3 Try.underlying64 _ mb n D rfl hown ?_; intro w0 hrg0 hg0 hs0)
    | go_in)
  go_frame
  have hrow0 : w0.ownsRow w.heap.size 3 1 (.slice none 0 0) 0 [] := ⟨rfl, Or.inl ⟨rfl, rfl⟩⟩
  have hb0 : Below w.heap.size w w0 := (Below.refl _ _).grown hg0 (Nat.le_refl _) (fun j hj => by cases hj)
  clear hs0 c2
  go_loopw [3] (fun v wr => ∃ (left : Lit → Bool) (cnt : Nat) (ss : List Int), wr.ranges Try.prog 3 persR mb w.heap.size n D left cnt ∧ ss.length + cnt ≤ Maps.size D ∧
      wr.ownsRow w.heap.size 3 1 v ss.length (ss.map (Value.int .i64)) ∧ Coll D left ss ∧ Below w.heap.size w wr)
    (fun _ wr => wr.rangeLeft mb w.heap.size)
  case atStart => exact ⟨_, _, [], hrg0, by simp, by simpa using hrow0, Coll.start D, hb0⟩
  case round =>
    obtain ⟨left, cnt, ss, hrg, hcs, hrow, hC, hnx⟩ := hrel
    go_wp2_with (first
      | (at_next; refine wpList_next_ranges _ rfl _ rfl 3 law3 persR (Value.int .i64) (fun p : Int × Int × Int => pers p.1 p.2.1 p.2.2) (fun key kl hk => by obtain ⟨x, rfl, _⟩ := Maps.keyOf_int_inv Try.underlying3 hk; exact ⟨x, rfl⟩) (fun v y hv => by obtain ⟨a, x, y, rfl, _⟩ := persR_inv hv; exact ⟨(a, x, y), rfl⟩) mb w.heap.size n _ _ _ rfl hrg ?_ ?_)
      | go_in)
    · intro hc0 hl0
      have hmem : ∀ i, wf64 i → (i ∈ ss ↔ ∃ a x y, f i = some (a, x, y)) := fun i hw => by
        rw [hC.2 i hw, hl0]
        refine ⟨fun h => HR.out.some_of hw h.1, fun ⟨a, x, y, h⟩ => ⟨((HR.out.2 i hw).2 a x y h).1, rfl⟩⟩
      rcases hrow.2 with ⟨hnil, hz⟩ | ⟨g, cap, cur, rfl, hbase, hb, h1, h2, h3, h4⟩
      · subst hnil
        have es : ss = [] := List.eq_nil_of_length_eq_zero hz
        subst es
        go_wp2_with (first | (go_at_call 46; (with_reducible refine (sort_nil _ _ _).mono ?_); rintro e w' ⟨rfl, rfl⟩))
        go_ret
        exact ⟨_, [], rfl, by simpa using hrow, hC.1, hmem, by simp, hnx⟩
      · have hH : Holds (Value.int .i64) wr g 0 ss.toArray := holds_of_blockI hb (by simpa using h4)
        have hgl : g < wr.heap.size := (Array.getElem?_eq_some_iff.1 hb).1
        have hc := sort_any g 0 cap ss wr hH hgl (by omega)
        go_wp2_with (first | (go_at_call 46; refine hc.mono ?_; rintro e w' ⟨rfl, nn, os, rfl⟩))
        go_ret
        refine ⟨_, ss.mergeSort (fun x y => decide (x ≤ y)), rfl, ?_, fun x hx => hC.1 x (List.mem_mergeSort.1 hx), fun i hw => (List.mem_mergeSort).trans (hmem i hw), ?_, hnx.grown (grownBy_sortedI _) hnx.size (fun j hj => by cases hj; exact hbase)⟩
        · have := ownsRow_sortedI (n := nn) (os := os) (ts := ss.mergeSort (fun x y => decide (x ≤ y))) (by simp) hbase hb h1 h2 h3
          simpa using this
        · simp; omega
    · intro x ca cx cy kl yd yp w2 cnt2 hkey hlk hv hat hrg2 hlt hg2 hs2 hen
      obtain ⟨x', ex, rfl, hwx⟩ := Maps.keyOf_int_inv Try.underlying3 hkey
      obtain rfl : x = x' := by simpa using ex
      have hrow2 := hrow.kept hg2 (Or.inr (row_ne_iter hrow hrg).symm)
      clear hs2
      go_wp2_with (first
        | (at_builtin; refine wpList_append_own _ rfl _ _ 58 rfl w.heap.size 3 i0 (.int .i64 0) 1 8 Try.underlying58 hi hz0 hz1 hz2 rfl (by decide) _ _ _ rfl (hrow2.alloc _) ⟨w2.heap.size, 0, none⟩ 1 1 [.int .i64 x] rfl rfl (cell_one_new _ _ _) (ints_oneCell .i64 [x]) (by unfold maxLen at *; omega) (by omega) (by have := hnx.size; have := hg2.size; simp; omega) ?_; intro v' w3 hown' hg3 hnil3; go_frame)
        | go_in)
      have hrg3 := (hrg2.alloc _).kept hg3 (row_ne_low hrow2 hbl) (row_ne_iter hrow2 hrg2)
      go_roundw
      case rel =>
        refine ⟨_, cnt2, ss ++ [x], hrg3, by simp; omega, by simpa using hown', hC.step hwx hlk hat, ?_⟩
        exact ((hnx.grown hg2 hnx.size (fun j hj => by cases hj; exact Nat.le_refl _)).alloc (by have := hnx.size; have := hg2.size; omega) _).grown hg3 (by have := hnx.size; have := hg2.size; simp; omega) (fun j hj => (hrow2.lt j hj).1)
      case measure => rw [hrg3.left_eq, hrg.left_eq]; exact hlt
end Go.Proofs.Ytfcianhmfpenhaa
