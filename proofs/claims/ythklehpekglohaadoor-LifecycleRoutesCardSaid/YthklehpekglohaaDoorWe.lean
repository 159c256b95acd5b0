/- A window of a slice of ways: its cells, and append onto it. -/
import Derived.Test.YthklehpekglohaaDoorWd
import Derived.Test.YthklehpekglohaaDoorFresh
import Derived.Deep.AppendSrc
import Derived.Deep.Upon
namespace Go.Proofs.YthklehpekglohaaDoor
open Go.RowKit
set_option linter.unusedVariables false
set_option linter.unusedSimpArgs false
/-- a window of ways in memory -/
structure Win (w : World) (b off n cap : Nat) (xs : List Value) : Prop where
  len : xs.length = n * 2
  le : n ≤ cap
  cm : cap ≤ maxLen
  lt : b < w.heap.size
  cell : ∀ j u, xs[j]? = some u → w.cell? ⟨b, off + j, none⟩ = some u
  isS : ∀ j, j < cap * 2 → (w.cell? ⟨b, off + j, none⟩).isSome = true
  fz : ∀ j, j < cap * 2 → w.frozen? ⟨b, off + j, none⟩ = false
theorem Win.of {w w' : World} {b off n cap : Nat} {xs : List Value} (x : Win w b off n cap xs) (hs : w.heap.size ≤ w'.heap.size) (hb : w'.heap[b]? = w.heap[b]?) : Win w' b off n cap xs :=
  ⟨x.len, x.le, x.cm, Nat.lt_of_lt_of_le x.lt hs, fun j u e => (World.cell?_of_block hb).trans (x.cell j u e), fun j hj => by rw [World.cell?_of_block (a := ⟨b, off + j, none⟩) hb]; exact x.isS j hj, fun j hj => (World.frozen?_of_block hb).trans (x.fz j hj)⟩
theorem Win.below {w w' : World} {b off n cap : Nat} {xs : List Value} (x : Win w b off n cap xs) (hb : Below w.heap.size w w') : Win w' b off n cap xs := x.of hb.size (hb.block b x.lt)
theorem Win.far {w : World} {b off n cap : Nat} {xs : List Value} (x : Win w b off n cap xs) {p : Addr} (hp : b ≠ p.block) (u : Value) : Win (w.setCell p u) b off n cap xs := x.of (by rw [set_size]; exact Nat.le_refl _) (Below.heap_setCell _ _ _ _ hp)
theorem Win.tail {w : World} {b off n cap : Nat} {x0 x1 : Value} {xs : List Value} (x : Win w b off (n + 1) cap (x0 :: x1 :: xs)) : Win w b (off + 2) n (cap - 1) xs := by
  have h1 := x.len
  have h2 := x.le
  have h3 := x.cm
  simp only [List.length_cons] at h1
  refine ⟨by omega, by omega, by omega, x.lt, fun j u e => ?_, fun j hj => ?_, fun j hj => ?_⟩
  · have := x.cell (j + 2) u (by simpa using e)
    rwa [show off + (j + 2) = off + 2 + j from by omega] at this
  · have := x.isS (j + 2) (by omega)
    rwa [show off + (j + 2) = off + 2 + j from by omega] at this
  · have := x.fz (j + 2) (by omega)
    rwa [show off + (j + 2) = off + 2 + j from by omega] at this
theorem Win.tail0 {w : World} {b off cap off' : Nat} {x0 x1 : Value} {xs : List Value} (x : Win w b off 1 cap (x0 :: x1 :: xs)) : Win w b off' 0 0 [] := by
  refine ⟨rfl, Nat.le_refl _, Nat.zero_le _, x.lt, fun j u e => ?_, fun j hj => ?_, fun j hj => ?_⟩
  · simp at e
  · omega
  · omega
theorem info49 : (Tryd.prog.info? 49).map (fun i => (i.zero, i.size, i.bytes)) = some (some (.agg #[.int .i64 0, .slice none 0 0]), 2, 32) := by kernel_rfl
theorem run_append_win {w : World} {i : TypeInfo} (hi : Tryd.prog.info? 49 = some i) (hz : i.zero = some (.agg #[.int .i64 0, .slice none 0 0])) (hz1 : i.size = 2) (hz2 : i.bytes = 32) (ty : TypeId)
    {b off n cap : Nat} {xs : List Value} (x : Win w b off n cap xs) (a : Addr) (c : Nat) (x0 x1 : Value) (hnews : ∀ j u, [x0, x1][j]? = some u → w.cell? (a.add j) = some u) (h1 : ∀ u ∈ [x0, x1], u.oneCell' = true) (hn : n < 1000) :
    ∃ b' off' cap' w', (Builtin.append_ #[50, 50] ty #[.slice (some ⟨b, off, none⟩) n cap, .slice (some a) 1 c]).run Tryd.prog w = .ok (.slice (some ⟨b', off', none⟩) (n + 1) cap') w' ∧ Win w' b' off' (n + 1) cap' (xs ++ [x0, x1]) ∧ w.grownBy w' (some b) ∧ (b' = b ∨ b' = w.heap.size) := by
  have hlen := x.len
  have hle := x.le
  by_cases hroom : n + 1 ≤ cap
  · have hsrc : Src Tryd.prog i.size 50 (.slice (some a) 1 c) 1 [x0, x1] w := Src.ofSlice w Tryd.underlying50 a 1 c [x0, x1] (by rw [hz1]; rfl) hnews h1
    have hr := run_append_room_src w 50 50 ty 49 i Tryd.underlying50 hi b off n cap (.slice (some a) 1 c) 1 [x0, x1] hsrc hroom
      (fun j hj => by have hj' : j < 2 := hj; have := x.isS (n * 2 + j) (by omega); rw [hz1]; rwa [← Nat.add_assoc] at this)
      (fun j hj => by have hj' : j < 2 := hj; have := x.fz (n * 2 + j) (by omega); rw [hz1]; rwa [← Nat.add_assoc] at this)
    rw [hz1] at hr
    refine ⟨b, off, cap, _, hr, ⟨by simp [hlen]; omega, by omega, x.cm, ?_, fun j u e => ?_, fun j hj => ?_, fun j hj => ?_⟩, ?_, Or.inl rfl⟩
    · simpa [World.setCells, World.setCell] using x.lt
    · rcases Nat.lt_or_ge j (n * 2) with h | h
      · rw [World.cell?_setCells_out b _ _ _ _ (fun _ _ => Or.inl (by dsimp only; omega))]
        rw [List.getElem?_append_left (by omega)] at e
        exact x.cell j u e
      · rw [List.getElem?_append_right (by omega), hlen] at e
        have hj2 : j - n * 2 < 2 := (List.getElem?_eq_some_iff.1 e).1
        have hin := World.cell?_setCells_in b [x0, x1] (off + n * 2) w (fun k hk => by have hk' : k < 2 := hk; have := x.isS (n * 2 + k) (by omega); rwa [← Nat.add_assoc] at this) (j - n * 2) hj2
        rw [show off + n * 2 + (j - n * 2) = off + j from by omega] at hin
        rw [hin]
        rw [List.getElem?_eq_getElem hj2] at e
        exact e
    · rcases Nat.lt_or_ge j (n * 2) with h | h
      · rw [World.cell?_setCells_out b _ _ _ _ (fun _ _ => Or.inl (by dsimp only; omega))]
        exact x.isS j hj
      · rcases Nat.lt_or_ge j (n * 2 + 2) with h' | h'
        · have hin := World.cell?_setCells_in b [x0, x1] (off + n * 2) w (fun k hk => by have hk' : k < 2 := hk; have := x.isS (n * 2 + k) (by omega); rwa [← Nat.add_assoc] at this) (j - n * 2) (by show _ < 2; omega)
          rw [show off + n * 2 + (j - n * 2) = off + j from by omega] at hin
          rw [hin]
          rfl
        · rw [World.cell?_setCells_out b _ _ _ _ (fun _ _ => Or.inr (by show off + n * 2 + 2 ≤ off + j; omega))]
          exact x.isS j hj
    · rw [World.frozen?_setCells]
      exact x.fz j hj
    · exact ⟨rfl, rfl, rfl, by simp [World.setCells, World.setCell], fun k hk hne => World.heap_setCells_other w b _ _ hk (fun e => hne (by rw [e]))⟩
  · have hr := run_append_grow w 50 ty 49 i _ Tryd.underlying50 hi hz ⟨b, off, none⟩ n cap xs (by rw [hz1]; exact hlen) (fun j v e => by rw [Addr.add_lit]; exact x.cell j v e) a 1 c [x0, x1] (by rw [hz1]; rfl) hnews (by omega) (by omega) (by rw [hz2]; exact growslice_fits (by omega) (by omega))
    have hge := grownCap_ge w (n + 1) cap 49
    have hcm : grownCap w (n + 1) cap 49 ≤ maxLen := grownCap_le_maxLen w (n + 1) cap 49 (by unfold maxLen; omega)
    have hbc := block_cells (heap_alloc_new w.drew (.cells (xs.toArray ++ [x0, x1].toArray ++ Builtin.zeroCells (Value.agg #[.int .i64 0, .slice none 0 0]).cells (grownCap w (n + 1) cap 49 - (n + 1))) 49))
    have hsz : (xs.toArray ++ [x0, x1].toArray ++ Builtin.zeroCells (Value.agg #[.int .i64 0, .slice none 0 0]).cells (grownCap w (n + 1) cap 49 - (n + 1))).size = grownCap w (n + 1) cap 49 * 2 := by
      have h2 : (Value.agg #[.int .i64 0, .slice none 0 0]).cells.size = 2 := rfl
      simp only [Array.size_append, List.size_toArray, size_zeroCells, h2, hlen, List.length_cons, List.length_nil]
      omega
    refine ⟨w.heap.size, 0, grownCap w (n + 1) cap 49, _, hr, ⟨by simp [hlen]; omega, hge, hcm, by simp, fun j u e => ?_, fun j hj => ?_, fun j hj => ?_⟩, ⟨rfl, rfl, rfl, by simp, fun k hk _ => heap_alloc_old w.drew _ hk⟩, Or.inr rfl⟩
    · rw [Nat.zero_add]
      refine (hbc.1 j).trans ?_
      have hj : j < (xs ++ [x0, x1]).length := (List.getElem?_eq_some_iff.1 e).1
      rw [Array.getElem?_append_left (by simpa using hj)]
      simpa using e
    · rw [Nat.zero_add]
      have := hbc.1 j
      have hs : (w.drew.alloc (.cells (xs.toArray ++ [x0, x1].toArray ++ Builtin.zeroCells (Value.agg #[.int .i64 0, .slice none 0 0]).cells (grownCap w (n + 1) cap 49 - (n + 1))) 49)).cell? ⟨w.drew.heap.size, j, none⟩ = _ := this
      show (World.cell? _ ⟨w.drew.heap.size, j, none⟩).isSome = true
      rw [hs, Array.getElem?_eq_getElem (by rw [hsz]; exact hj)]
      rfl
    · rw [Nat.zero_add]
      exact hbc.2 j
theorem wpList_append_win {w : World} {ops : Array Oper} {rest : List Oper} {o : Oper} {act : Act} {Q : Exit → Act → World → Prop} (hgd : o.guard = none) (s x : Operand)
    (ho : o.op = .call { callee := .builtin .append, args := #[s, x], argTypes := #[50, 50] }) {i : TypeInfo} (hi : Tryd.prog.info? 49 = some i) (hz : i.zero = some (.agg #[.int .i64 0, .slice none 0 0])) (hz1 : i.size = 2) (hz2 : i.bytes = 32)
    (b off n cap : Nat) (xs : List Value) (hs : act.eval s = .slice (some ⟨b, off, none⟩) n cap) (hw : Win w b off n cap xs) (a : Addr) (c : Nat) (x0 x1 : Value) (hx : act.eval x = .slice (some a) 1 c) (hnews : ∀ j u, [x0, x1][j]? = some u → w.cell? (a.add j) = some u) (h1 : ∀ u ∈ [x0, x1], u.oneCell' = true) (hn : n < 1000)
    (h : ∀ b' off' cap' w', Win w' b' off' (n + 1) cap' (xs ++ [x0, x1]) → w.grownBy w' (some b) → (b' = b ∨ b' = w.heap.size) → wpList Tryd.prog ops Q rest (act.put o.dst (.slice (some ⟨b', off', none⟩) (n + 1) cap')) w') :
    wpList Tryd.prog ops Q (o :: rest) act w := by
  refine wpList_plain hgd fun K hK => ?_
  obtain ⟨b', off', cap', w', hr, h2, h3, h4⟩ := run_append_win hi hz hz1 hz2 o.type hw a c x0 x1 hnews h1 hn
  unfold Oper.wp execOp
  simp only [ho, resolve, invoke, builtin, Sem.run_bind, Sem.run_pure, Result.andThen_ok, List.map_toArray, List.map_cons, List.map_nil, hs, hx, hr]
  exact hK _ _ (h b' off' cap' w' h2 h3 h4)
end Go.Proofs.YthklehpekglohaaDoor
