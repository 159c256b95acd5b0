/- Walks: an observation of a person is recorded. -/
import Derived.Test.YtfcianhmfpenhaaXb
namespace Go.Proofs.Ytfcianhmfpenhaa
open Go.RowKit Go.Maps
set_option linter.unusedVariables false
set_option linter.unusedSimpArgs false
theorem Per.look_some {w : World} {pb mb : Nat} {H kp : Int} {n : Nat} {f : Int → Option (Int × Int × Int)} (h : Per w pb mb H kp n f) {i a x y : Int} (hi : wf64 i) (hf : f i = some (a, x, y)) :
    (Instr.lookup 64 (.map (some mb)) (.int .i64 i) true).run Try.prog w = .ok (.tuple #[pers a x y, .bool true]) w := by
  obtain ⟨D, hD, hr⟩ := h.map
  obtain ⟨v, ps, hrun, hv⟩ := hD.look_ok law3 Try.underlying64 (zero68 w) (persR_mk 0 0 0) (key3 hi)
  rw [((hr.2 i hi).2 a x y hf).2] at hv
  rw [((hr.2 i hi).2 a x y hf).1] at hrun
  obtain ⟨a', x', y', rfl, e⟩ := persR_inv hv
  simp only [Prod.mk.injEq] at e
  obtain ⟨rfl, rfl, rfl⟩ := persD_inj e.1
  exact hrun
theorem Per.look_none {w : World} {pb mb : Nat} {H kp : Int} {n : Nat} {f : Int → Option (Int × Int × Int)} (h : Per w pb mb H kp n f) {i : Int} (hi : wf64 i) (hf : f i = none) :
    (Instr.lookup 64 (.map (some mb)) (.int .i64 i) true).run Try.prog w = .ok (.tuple #[pers 0 0 0, .bool false]) w := by
  obtain ⟨D, hD, hr⟩ := h.map
  obtain ⟨v, ps, hrun, hv⟩ := hD.look_ok law3 Try.underlying64 (zero68 w) (persR_mk 0 0 0) (key3 hi)
  rw [atKey_of_not_has ((hr.2 i hi).1 hf)] at hv
  rw [(hr.2 i hi).1 hf] at hrun
  obtain ⟨a', x', y', rfl, e⟩ := persR_inv hv
  simp only [Prod.mk.injEq] at e
  obtain ⟨rfl, rfl, rfl⟩ := persD_inj e.1
  exact hrun
theorem eq_map (b : Nat) (w : World) : (binOp .eql 64 (.map (some b)) (.map none)).run Try.prog w = .ok (.bool false) w := by kernel_rfl
theorem wf_of {i : Int} (h1 : -9223372036854775808 ≤ i) (h2 : i ≤ 9223372036854775807) : wf64 i := WalkArith.wf_i64 ⟨h1, h2⟩
theorem szA {w : World} {o : Obj} : (w.alloc o).heap.size = w.heap.size + 1 := by simp
theorem map_ne {w : World} {pb : Nat} {H kp : Int} {n : Nat} {f : Int → Option (Int × Int × Int)} {D : DataW Unit} (h : Per w pb pb H kp n f) (ho : w.ownsMap Try.prog 3 persR pb n D) : False := by
  obtain ⟨es, clock, hb, _⟩ := ho
  have := h.c0
  simp [World.cell?, hb] at this
set_option maxRecDepth 100000 in
set_option maxHeartbeats 2000000 in
theorem psee_walk {pb mb : Nat} {H kp : Int} {n : Nat} {f : Int → Option (Int × Int × Int)} (id t x y a0 u0 v0 : Int) (b : Bool) (h1 : 1 ≤ id) (h2 : id ≤ 8) (t1 : 0 ≤ t) (t2 : t ≤ 1099511627776)
    (x1 : -1048576 ≤ x) (x2 : x ≤ 1048576) (y1 : -1048576 ≤ y) (y2 : y ≤ 1048576) (w : World) (P0 : Hid (Per w pb mb H kp n f)) (hn : n ≤ 1000000)
    (HL : Hid (∀ w', Below w.heap.size w w' → (Instr.lookup 64 (.map (some mb)) (.int .i64 id) true).run Try.prog w' = .ok (.tuple #[pers a0 u0 v0, .bool b]) w')) (hb0 : b = true → a0 ≤ t) :
    Calls Try.prog 19 #[.pointer (some ⟨pb, 0, none⟩), .int .i64 id, .int .i64 t, pt x y] w fun e w' => e = .returned (.int .i64 0) ∧ Per w' pb mb H kp (n + 1) (upd1 f id (t, x, y)) ∧ w.grownBy w' (some mb) := by
  have plt := P0.out.lt
  have mlt := P0.out.mlt
  have c2 := P0.out.c2
  have HT := hid (fun w => vt_ok t1 t2 w)
  have HI := hid (fun w => in_yes x1 x2 y1 y2 w)
  have qm := eq_map mb
  have hw := wf_of (i := id) (by omega) (by omega)
  obtain ⟨D, hown, hrep⟩ := P0.out.map
  have HO := hid hown
  have HR := hid hrep
  clear hown hrep
  cases b with
  | true =>
    have hat := hb0 rfl
    clear hb0
    go_enter Try.func19, Try.ntmps19
    go_wp2_with (first
      | (go_at_call 29; (with_reducible refine (HT.out _).mono ?_); rintro e w2 ⟨rfl, rfl⟩)
      | (go_at_call 30; (with_reducible refine (HI.out _).mono ?_); rintro e w2 ⟨rfl, hb⟩; obtain ⟨hc, hf⟩ := bcell hb; have hlk := HL.out _ (below_box hb)))
    have hs2 := hb.size
    rw [szA] at hs2
    generalize hW : w2.alloc (.cells #[.int .i64 a0, .int .i64 u0, .int .i64 v0] 68) = W at *
    have hB : Below w.heap.size w W := by rw [← hW]; exact (below_box hb).alloc (by omega) _
    have hsW : w2.heap.size ≤ W.heap.size := by rw [← hW]; simp
    have HC := hid (fun o => (show W.cell? ⟨w.heap.size, o, none⟩ = (w.alloc (.cells #[.int .i64 x, .int .i64 y] 35)).cell? ⟨w.heap.size, o, none⟩ from by rw [← hW]; exact (World.cell?_alloc_lt _ _ _ (by show w.heap.size < w2.heap.size; omega)).trans (hc _ _ (by simp))))
    clear hW hc hf hlk HL
    have hl0 : ∀ (z : Later W) (o : Nat), z.val.cell? ⟨pb, o, none⟩ = w.cell? ⟨pb, o, none⟩ := fun z o => (z.cell (by omega)).trans (hB.cell plt)
    have hl1 : ∀ (z : Later W) (o : Nat), z.val.cell? ⟨w.heap.size, o, none⟩ = (w.alloc (.cells #[.int .i64 x, .int .i64 y] 35)).cell? ⟨w.heap.size, o, none⟩ := fun z o => (z.cell (by omega)).trans (HC.out o)
    refine wp_region_later_tail 8 (Below.refl _ _) (by kernel_rfl) (by kernel_rfl) ?_
    simp only [List.take_succ_cons, List.take_zero, List.drop_succ_cons, List.drop_zero]
    repeat (go_big_quiet_step (fail))
    refine wpQuiet_nil ?_
    intro _ hw'
    obtain ⟨y0, hw''⟩ := hw'
    subst hw''
    have hY : Below w.heap.size w y0.val := hB.trans (y0.ok.mono (by omega))
    have hown := map_kept HO.out (hY.block mb mlt)
    clear hl0 hl1
    go_wp2_with (first | (at_mapUpdate; refine wpList_mapUpdate_own _ rfl _ _ _ 64 rfl 3 68 law3 Try.underlying64 persR mb n D rfl hown (by unfold maxLen; omega) _ _ (.int .i64 id) rfl rfl (key3 hw) _ [] (persR_mk _ _ _) ?_; intro w9 hown9 hg9) | go_in)
    go_ret
    have hlt8 : pb < y0.val.heap.size := by have := hY.size; omega
    have hb9 : w9.heap[pb]? = w.heap[pb]? := (hg9.block pb hlt8 (fun e => by cases e; exact map_ne P0.out HO.out)).trans (hY.block pb plt)
    refine ⟨rfl, ⟨Nat.lt_of_lt_of_le hlt8 hg9.size, (World.cell?_of_block hb9).trans P0.out.c0, (World.cell?_of_block hb9).trans P0.out.c1, (World.cell?_of_block hb9).trans P0.out.c2, _, hown9, HR.out.put hw _ _ _⟩, ⟨hg9.os.trans hY.os, hg9.tape.trans hY.tape, hg9.output.trans hY.output, Nat.le_trans hY.size hg9.size, fun k hk hne => (hg9.block k (by have := hY.size; omega) hne).trans (hY.block k hk)⟩⟩
  | false =>
    clear hb0
    go_enter Try.func19, Try.ntmps19
    go_wp2_with (first
      | (go_at_call 29; (with_reducible refine (HT.out _).mono ?_); rintro e w2 ⟨rfl, rfl⟩)
      | (go_at_call 30; (with_reducible refine (HI.out _).mono ?_); rintro e w2 ⟨rfl, hb⟩; obtain ⟨hc, hf⟩ := bcell hb; have hlk := HL.out _ (below_box hb)))
    have hs2 := hb.size
    rw [szA] at hs2
    generalize hW : w2.alloc (.cells #[.int .i64 a0, .int .i64 u0, .int .i64 v0] 68) = W at *
    have hB : Below w.heap.size w W := by rw [← hW]; exact (below_box hb).alloc (by omega) _
    have hsW : w2.heap.size ≤ W.heap.size := by rw [← hW]; simp
    have HC := hid (fun o => (show W.cell? ⟨w.heap.size, o, none⟩ = (w.alloc (.cells #[.int .i64 x, .int .i64 y] 35)).cell? ⟨w.heap.size, o, none⟩ from by rw [← hW]; exact (World.cell?_alloc_lt _ _ _ (by show w.heap.size < w2.heap.size; omega)).trans (hc _ _ (by simp))))
    clear hW hc hf hlk HL
    have hl0 : ∀ (z : Later W) (o : Nat), z.val.cell? ⟨pb, o, none⟩ = w.cell? ⟨pb, o, none⟩ := fun z o => (z.cell (by omega)).trans (hB.cell plt)
    have hl1 : ∀ (z : Later W) (o : Nat), z.val.cell? ⟨w.heap.size, o, none⟩ = (w.alloc (.cells #[.int .i64 x, .int .i64 y] 35)).cell? ⟨w.heap.size, o, none⟩ := fun z o => (z.cell (by omega)).trans (HC.out o)
    refine wp_region_later_tail 8 (Below.refl _ _) (by kernel_rfl) (by kernel_rfl) ?_
    simp only [List.take_succ_cons, List.take_zero, List.drop_succ_cons, List.drop_zero]
    repeat (go_big_quiet_step (fail))
    refine wpQuiet_nil ?_
    intro _ hw'
    obtain ⟨y0, hw''⟩ := hw'
    subst hw''
    have hY : Below w.heap.size w y0.val := hB.trans (y0.ok.mono (by omega))
    have hown := map_kept HO.out (hY.block mb mlt)
    clear hl0 hl1
    go_wp2_with (first | (at_mapUpdate; refine wpList_mapUpdate_own _ rfl _ _ _ 64 rfl 3 68 law3 Try.underlying64 persR mb n D rfl hown (by unfold maxLen; omega) _ _ (.int .i64 id) rfl rfl (key3 hw) _ [] (persR_mk _ _ _) ?_; intro w9 hown9 hg9) | go_in)
    go_ret
    have hlt8 : pb < y0.val.heap.size := by have := hY.size; omega
    have hb9 : w9.heap[pb]? = w.heap[pb]? := (hg9.block pb hlt8 (fun e => by cases e; exact map_ne P0.out HO.out)).trans (hY.block pb plt)
    refine ⟨rfl, ⟨Nat.lt_of_lt_of_le hlt8 hg9.size, (World.cell?_of_block hb9).trans P0.out.c0, (World.cell?_of_block hb9).trans P0.out.c1, (World.cell?_of_block hb9).trans P0.out.c2, _, hown9, HR.out.put hw _ _ _⟩, ⟨hg9.os.trans hY.os, hg9.tape.trans hY.tape, hg9.output.trans hY.output, Nat.le_trans hY.size hg9.size, fun k hk hne => (hg9.block k (by have := hY.size; omega) hne).trans (hY.block k hk)⟩⟩
theorem psee_ok {pb mb : Nat} {H kp : Int} {n : Nat} {f : Int → Option (Int × Int × Int)} (id t x y : Int) (h1 : 1 ≤ id) (h2 : id ≤ 8) (t1 : 0 ≤ t) (t2 : t ≤ 1099511627776)
    (x1 : -1048576 ≤ x) (x2 : x ≤ 1048576) (y1 : -1048576 ≤ y) (y2 : y ≤ 1048576) (hf : ∀ a u v, f id = some (a, u, v) → a ≤ t) (w : World) (P0 : Hid (Per w pb mb H kp n f)) (hn : n ≤ 1000000) :
    Calls Try.prog 19 #[.pointer (some ⟨pb, 0, none⟩), .int .i64 id, .int .i64 t, pt x y] w fun e w' => e = .returned (.int .i64 0) ∧ Per w' pb mb H kp (n + 1) (upd1 f id (t, x, y)) ∧ w.grownBy w' (some mb) := by
  have hw := wf_of (i := id) (by omega) (by omega)
  cases e : f id with
  | none => exact psee_walk id t x y 0 0 0 false h1 h2 t1 t2 x1 x2 y1 y2 w P0 hn (hid (fun w' hb => (P0.out.below hb).look_none hw e)) (fun h => by cases h)
  | some p => exact psee_walk id t x y p.1 p.2.1 p.2.2 true h1 h2 t1 t2 x1 x2 y1 y2 w P0 hn (hid (fun w' hb => (P0.out.below hb).look_some hw (show f id = some (p.1, p.2.1, p.2.2) from e))) (fun _ => hf _ _ _ (show f id = some (p.1, p.2.1, p.2.2) from e))
set_option maxRecDepth 100000 in
set_option maxHeartbeats 2000000 in
theorem see_ok {sb pb mb : Nat} {S A B H M kp al md : Int} {n : Nat} {f : Int → Option (Int × Int × Int)} (id t x y : Int) (h1 : 1 ≤ id) (h2 : id ≤ 8) (t1 : 0 ≤ t) (t2 : t ≤ 1099511627776)
    (x1 : -1048576 ≤ x) (x2 : x ≤ 1048576) (y1 : -1048576 ≤ y) (y2 : y ≤ 1048576) (hf : ∀ a u v, f id = some (a, u, v) → a ≤ t) (w : World) (S0 : Hid (Sup w sb pb S A B H M kp al md)) (P0 : Hid (Per w pb mb H kp n f)) (hn : n ≤ 1000000) :
    Calls Try.prog 9 #[.pointer (some ⟨sb, 0, none⟩), .int .i64 id, .int .i64 t, pt x y] w fun e w' => e = .returned (.int .i64 0) ∧ Per w' pb mb H kp (n + 1) (upd1 f id (t, x, y)) ∧ w.grownBy w' (some mb) := by
  have slt := S0.out.lt
  have c5 := S0.out.c5
  have plt := P0.out.lt
  have mlt := P0.out.mlt
  have HS := hid (fun w P0 => psee_ok (pb := pb) (mb := mb) (H := H) (kp := kp) id t x y h1 h2 t1 t2 x1 x2 y1 y2 hf w P0 hn)
  go_enter Try.func9, Try.ntmps9
  go_upto_region 3 with fail
  have hl0 : ∀ (z : Later (w.alloc (.cells #[.int .i64 x, .int .i64 y] 35))) (o : Nat), z.val.cell? ⟨sb, o, none⟩ = w.cell? ⟨sb, o, none⟩ := fun z o => (z.cell (by simp; omega)).trans (World.cell?_alloc_lt _ _ _ slt)
  have hl1 : ∀ (z : Later (w.alloc (.cells #[.int .i64 x, .int .i64 y] 35))) (o : Nat), z.val.cell? ⟨w.heap.size, o, none⟩ = (w.alloc (.cells #[.int .i64 x, .int .i64 y] 35)).cell? ⟨w.heap.size, o, none⟩ := fun z o => z.cell (by simp)
  refine wp_region_later_tail 7 (Below.refl _ _) (by kernel_rfl) (by kernel_rfl) ?_
  simp only [List.take_succ_cons, List.take_zero, List.drop_succ_cons, List.drop_zero]
  repeat (go_big_quiet_step (fail))
  refine wpQuiet_nil ?_
  intro _ hw'
  obtain ⟨y0, hw''⟩ := hw'
  subst hw''
  have hY : Below w.heap.size w y0.val := ((Below.refl _ _).alloc (Nat.le_refl _) _).trans (y0.ok.mono (by simp))
  have HP := hid (P0.out.below hY)
  clear hl0 hl1
  go_wp2_with (first | (go_at_call 19; (with_reducible refine (HS.out _ HP).mono ?_); rintro e w9 ⟨rfl, hp9, hg9⟩))
  go_ret
  exact ⟨rfl, hp9, ⟨hg9.os.trans hY.os, hg9.tape.trans hY.tape, hg9.output.trans hY.output, Nat.le_trans hY.size hg9.size, fun k hk hne => (hg9.block k (by have := hY.size; omega) hne).trans (hY.block k hk)⟩⟩
end Go.Proofs.Ytfcianhmfpenhaa
