/- Append of a list that is read onto a list that the call owns. -/
import Derived.Test.YthklehpekglohaaDoorWe
namespace Go.Proofs.YthklehpekglohaaDoor
open Go.RowKit
set_option linter.unusedVariables false
set_option linter.unusedSimpArgs false
theorem ints_one (l : List Int) : ∀ u ∈ ints l, u.oneCell' = true := by
  intro u hu
  obtain ⟨x, _, rfl⟩ := List.mem_map.1 hu
  rfl
theorem ints_append (a b : List Int) : ints (a ++ b) = ints a ++ ints b := by simp [ints]
theorem run_append_rd {w : World} {i : TypeInfo} (hi : Tryd.prog.info? 3 = some i) (hz0 : i.zero = some (.int .i64 0)) (hz1 : i.size = 1) (hz2 : i.bytes = 8) (ty : TypeId) (base : Nat) {v : Value} {L : List Int} (hown : w.ownsRow base 3 1 v L.length (ints L)) {x : Value} {d : List Int} (hx : RdI w x d)
    (hb : (L.length + d.length) * 8 ≤ 140737488355328) (hbase : base ≤ w.heap.size) :
    ∃ v' w', (Builtin.append_ #[22, 22] ty #[v, x]).run Tryd.prog w = .ok v' w' ∧ w'.ownsRow base 3 1 v' (L ++ d).length (ints (L ++ d)) ∧ w.grownBy w' v.ownBlock ∧ (v'.ownBlock = v.ownBlock ∨ v'.ownBlock = some w.heap.size) := by
  obtain ⟨a, cap, rfl, hcap, hm, hr⟩ := hx
  rcases Nat.eq_zero_or_pos d.length with h0 | hp
  · have hd : d = [] := List.eq_nil_of_length_eq_zero h0
    subst hd
    refine ⟨v, w, ?_, by rw [List.append_nil]; exact hown, ⟨rfl, rfl, rfl, Nat.le_refl _, fun _ _ _ => rfl⟩, Or.inl rfl⟩
    have hsrc : Src Tryd.prog i.size 22 (.slice a 0 cap) 0 [] w := by
      cases a with
      | none => exact Src.ofNil w Tryd.underlying22 cap
      | some a => exact Src.ofSlice w Tryd.underlying22 a 0 cap [] (by simp) (fun j u e => by simp at e) (fun u hu => by cases hu)
    rcases hown.2 with ⟨rfl, -⟩ | ⟨g, c, cur, rfl, _, _, hc, _⟩
    · exact run_append_nothing w 22 22 ty 3 i Tryd.underlying22 hi none 0 0 (Nat.le_refl _) _ hsrc
    · exact run_append_nothing w 22 22 ty 3 i Tryd.underlying22 hi (some ⟨g, 0, none⟩) L.length c hc _ hsrc
  · obtain ⟨g, off, rfl, hg, hc⟩ := hr hp
    obtain ⟨v', w', h1, h2, h3, _, h5⟩ := run_append_own_at w base 22 ty 3 i (.int .i64 0) 1 8 Tryd.underlying22 hi hz0 hz1 hz2 int_size (by decide) v L.length (ints L) hown ⟨g, off, none⟩ d.length cap (ints d) (by rw [ints_len, Nat.mul_one])
      (fun j u e => by
        rw [Addr.add_lit]
        have hj : j < d.length := by have := (List.getElem?_eq_some_iff.1 e).1; rwa [ints_len] at this
        rw [hc j d[j] (by simp [hj])]
        rw [ints_get (u := d[j]) (by simp [hj])] at e
        exact e) (ints_one d) (by unfold maxLen; omega) hb hbase
    refine ⟨v', w', h1, ?_, h3, h5⟩
    rw [List.length_append, ints_append]
    exact h2
theorem wpList_append_rd {w : World} {ops : Array Oper} {rest : List Oper} {o : Oper} {act : Act} {Q : Exit → Act → World → Prop} (hgd : o.guard = none) (s x : Operand)
    (ho : o.op = .call { callee := .builtin .append, args := #[s, x], argTypes := #[22, 22] }) {i : TypeInfo} (hi : Tryd.prog.info? 3 = some i) (hz0 : i.zero = some (.int .i64 0)) (hz1 : i.size = 1) (hz2 : i.bytes = 8)
    (base : Nat) (v : Value) (L : List Int) (hs : act.eval s = v) (hown : w.ownsRow base 3 1 v L.length (ints L)) (y : Value) (d : List Int) (hy : act.eval x = y) (hx : RdI w y d) (hb : (L.length + d.length) * 8 ≤ 140737488355328) (hbase : base ≤ w.heap.size)
    (h : ∀ v' w', w'.ownsRow base 3 1 v' (L ++ d).length (ints (L ++ d)) → w.grownBy w' v.ownBlock → (v'.ownBlock = v.ownBlock ∨ v'.ownBlock = some w.heap.size) → wpList Tryd.prog ops Q rest (act.put o.dst v') w') :
    wpList Tryd.prog ops Q (o :: rest) act w := by
  refine wpList_plain hgd fun K hK => ?_
  obtain ⟨v', w', hr, h2, h3, h4⟩ := run_append_rd hi hz0 hz1 hz2 o.type base hown hx hb hbase
  unfold Oper.wp execOp
  simp only [ho, resolve, invoke, builtin, Sem.run_bind, Sem.run_pure, Result.andThen_ok, List.map_toArray, List.map_cons, List.map_nil, hs, hy, hr]
  exact hK _ _ (h v' w' h2 h3 h4)
/-- an empty list of the call's own -/
theorem own_none (w : World) : (w.alloc (.cells #[] 3)).ownsRow w.heap.size 3 1 (.slice (some ⟨w.heap.size, 0, none⟩) 0 0) ([] : List Int).length (ints []) :=
  World.ownsRow_made w #[] 0 (Nat.le_refl _) (Nat.zero_le _) (by simp)
end Go.Proofs.YthklehpekglohaaDoor
