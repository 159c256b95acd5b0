/- Walks: the shortest route. -/
import Derived.Test.YthklehpekglohaaDoorWf
import Derived.Deep.Cut
import Derived.Deep.DeepCutAuto
namespace Go.Proofs.YthklehpekglohaaDoor
open Go.RowKit
set_option linter.unusedVariables false
set_option linter.unusedSimpArgs false
/-- what is pushed behind a way -/
def pushes (s : Int) (d : List Int) (l : List Int) : List (Int × List Int) := l.map fun t => ((nx s t true).1, d ++ [t])
/-- a state is marked -/
def mark (seen : Nat → Bool) (s : Nat) : Nat → Bool := fun i => if i = s then true else seen i
/-- the search, plainly -/
def bfs (tg : Int) : Nat → List (Int × List Int) → (Nat → Bool) → Option (Option (List Int))
  | 0, _, _ => none
  | _ + 1, [], _ => some none
  | f + 1, (s, d) :: r, seen => if s = tg then some (some d) else if seen s.toNat = true then bfs tg f r seen else bfs tg f (r ++ pushes s d (alwN s 5)) (mark seen s.toNat)
/-- a list that is read, apart from two blocks -/
def RdX (w : World) (b sB : Nat) (v : Value) (d : List Int) : Prop := ∃ a cap, v = .slice a d.length cap ∧ d.length ≤ cap ∧ (0 < d.length → ∃ g off, a = some ⟨g, off, none⟩ ∧ g < w.heap.size ∧ g ≠ b ∧ g ≠ sB ∧ ∀ i u, d[i]? = some u → w.cell? ⟨g, off + i, none⟩ = some (.int .i64 u))
theorem RdX.rd {w : World} {b sB : Nat} {v : Value} {d : List Int} (h : RdX w b sB v d) (hd : d.length ≤ maxLen) : RdI w v d := by
  obtain ⟨a, cap, h1, h2, h3⟩ := h
  refine ⟨a, cap, h1, h2, hd, fun hp => ?_⟩
  obtain ⟨g, off, k1, k2, _, _, k5⟩ := h3 hp
  exact ⟨g, off, k1, k2, k5⟩
theorem RdX.keep {w w' : World} {b sB b' : Nat} {v : Value} {d : List Int} (h : RdX w b sB v d) (hs : w.heap.size ≤ w'.heap.size) (hk : ∀ k, k < w.heap.size → k ≠ b → k ≠ sB → w'.heap[k]? = w.heap[k]?) (hb : b' = b ∨ w.heap.size ≤ b') : RdX w' b' sB v d := by
  obtain ⟨a, cap, h1, h2, h3⟩ := h
  refine ⟨a, cap, h1, h2, fun hp => ?_⟩
  obtain ⟨g, off, k1, k2, k3, k4, k5⟩ := h3 hp
  have k3' : g ≠ b' := by
    rcases hb with e | e
    · exact fun h => k3 (h.trans e)
    · exact fun h => by omega
  exact ⟨g, off, k1, Nat.lt_of_lt_of_le k2 hs, k3', k4, fun i u e => (World.cell?_of_block (hk g k2 k3 k4)).trans (k5 i u e)⟩
/-- the ways of the queue, read off its cells -/
def Ways (w : World) (b sB D : Nat) : List (Int × List Int) → List Value → Prop
  | [], xs => xs = []
  | x :: r, xs => ∃ v ys, xs = .int .i64 x.1 :: v :: ys ∧ 1 ≤ x.1 ∧ x.1 ≤ 4 ∧ x.2.length ≤ D ∧ RdX w b sB v x.2 ∧ Ways w b sB D r ys
theorem Ways.keep {w w' : World} {b sB b' D : Nat} (hs : w.heap.size ≤ w'.heap.size) (hk : ∀ k, k < w.heap.size → k ≠ b → k ≠ sB → w'.heap[k]? = w.heap[k]?) (hb : b' = b ∨ w.heap.size ≤ b') : ∀ {ws : List (Int × List Int)} {xs : List Value}, Ways w b sB D ws xs → Ways w' b' sB D ws xs
  | [], _, h => h
  | _ :: _, _, h => by
    obtain ⟨v, ys, h1, h2, h3, h4, h5, h6⟩ := h
    exact ⟨v, ys, h1, h2, h3, h4, h5.keep hs hk hb, Ways.keep hs hk hb h6⟩
theorem Ways.mono {w : World} {b sB D D' : Nat} (hD : D ≤ D') : ∀ {ws : List (Int × List Int)} {xs : List Value}, Ways w b sB D ws xs → Ways w b sB D' ws xs
  | [], _, h => h
  | _ :: _, _, h => by
    obtain ⟨v, ys, h1, h2, h3, h4, h5, h6⟩ := h
    exact ⟨v, ys, h1, h2, h3, Nat.le_trans h4 hD, h5, Ways.mono hD h6⟩
theorem Ways.snoc {w : World} {b sB D : Nat} {s : Int} {d : List Int} {v : Value} (h1 : 1 ≤ s) (h2 : s ≤ 4) (h3 : d.length ≤ D) (h4 : RdX w b sB v d) : ∀ {ws : List (Int × List Int)} {xs : List Value}, Ways w b sB D ws xs → Ways w b sB D (ws ++ [(s, d)]) (xs ++ [.int .i64 s, v])
  | [], _, h => by
    have h' : _ = [] := h
    subst h'
    exact ⟨v, [], rfl, h1, h2, h3, h4, rfl⟩
  | _ :: _, _, h => by
    obtain ⟨u, ys, k1, k2, k3, k4, k5, k6⟩ := h
    subst k1
    exact ⟨u, ys ++ [.int .i64 s, v], rfl, k2, k3, k4, k5, Ways.snoc h1 h2 h3 h4 k6⟩
/-- what holds at the head of the search -/
structure Sq (W w : World) (b off cap sB D : Nat) (ws : List (Int × List Int)) (seen : Nat → Bool) : Prop where
  bel : Below W.heap.size W w
  rules : Rules w
  b0 : W.heap.size ≤ b
  s0 : W.heap.size ≤ sB
  sl : sB < w.heap.size
  bs : b ≠ sB
  seen : ∀ i, i < 5 → w.cell? ⟨sB, i, none⟩ = some (.bool (seen i))
  sfz : ∀ i, i < 5 → w.frozen? ⟨sB, i, none⟩ = false
  ways : ∃ xs, Win w b off ws.length cap xs ∧ Ways w b sB D ws xs
theorem Sq.below {W w w' : World} {b off cap sB D : Nat} {ws : List (Int × List Int)} {seen : Nat → Bool} (h : Sq W w b off cap sB D ws seen) (hp : 0 < W.heap.size) (hb : Below w.heap.size w w') : Sq W w' b off cap sB D ws seen := by
  obtain ⟨xs, hw, hy⟩ := h.ways
  exact ⟨h.bel.trans (hb.mono h.bel.size), h.rules.below (Nat.lt_of_lt_of_le hp h.bel.size) hb, h.b0, h.s0, Nat.lt_of_lt_of_le h.sl hb.size, h.bs, fun i hi => (hb.cell h.sl).trans (h.seen i hi), fun i hi => (hb.frozen h.sl).trans (h.sfz i hi), xs, hw.below hb, hy.keep hb.size (fun k hk _ _ => hb.block k hk) (Or.inl rfl)⟩
theorem Sq.push {W w w6 : World} {b off cap sB D b' off' cap' : Nat} {ws : List (Int × List Int)} {seen : Nat → Bool} {s' : Int} {d' : List Int} {v' : Value} {xs : List Value} (h : Sq W w b off cap sB D ws seen) (hp : 0 < W.heap.size) (hy : Ways w b sB D ws xs)
    (hw : Win w6 b' off' (ws ++ [(s', d')]).length cap' (xs ++ [.int .i64 s', v'])) (hg : w.grownBy w6 (some b)) (hb : b' = b ∨ b' = w.heap.size) (h1 : 1 ≤ s') (h2 : s' ≤ 4) (h3 : d'.length ≤ D) (hv : RdX w b sB v' d') : Sq W w6 b' off' cap' sB D (ws ++ [(s', d')]) seen := by
  have hsz := h.bel.size
  have hsl := h.sl
  have hbs := h.bs
  have hb0 := h.b0
  have hk : ∀ k, k < w.heap.size → k ≠ b → w6.heap[k]? = w.heap[k]? := fun k hk hne => hg.block k hk (fun e => hne (by injection e))
  refine ⟨h.bel.grown hg h.bel.size (fun k e => by injection e with e; omega), fun i v e => (World.cell?_of_block (hk 0 (by omega) (by omega))).trans (h.rules i v e), by omega, h.s0, Nat.lt_of_lt_of_le h.sl hg.size, by omega, fun i hi => (World.cell?_of_block (hk sB h.sl (Ne.symm h.bs))).trans (h.seen i hi), fun i hi => (World.frozen?_of_block (hk sB h.sl (Ne.symm h.bs))).trans (h.sfz i hi), _, hw, ?_⟩
  exact (hy.keep hg.size (fun k h1 h2 _ => hk k h1 h2) (by omega)).snoc h1 h2 h3 (hv.keep hg.size (fun k h1 h2 _ => hk k h1 h2) (by omega))
theorem rdX_own {w : World} {base b sB : Nat} {v : Value} {l : List Int} (h : w.ownsRow base 3 1 v l.length (ints l)) (hb : b < base) (hs : sB < base) : RdX w b sB v l := by
  have h0 := h
  rcases h0.2 with ⟨rfl, e⟩ | ⟨g, cap, cur, rfl, hg, _, hc, _⟩
  · exact ⟨none, 0, by rw [e], by omega, fun h => absurd h (by omega)⟩
  · refine ⟨_, cap, rfl, hc, fun hp => ?_⟩
    obtain ⟨g', cap', e1, _, hlt⟩ := h.form hp
    injection e1 with e1 e2 e3
    injection e1 with e1
    injection e1 with e1
    subst e1
    exact ⟨g, 0, rfl, hlt, by omega, by omega, fun i u e => by rw [Nat.zero_add]; exact (h.cellAt i (by rw [Nat.mul_one]; exact (List.getElem?_eq_some_iff.1 e).1)).trans (ints_get e)⟩
theorem pushes_take (s : Int) (d l : List Int) {k : Nat} (hk : k < l.length) : pushes s d (l.take (k + 1)) = pushes s d (l.take k) ++ [((nx s l[k] true).1, d ++ [l[k]])] := by
  unfold pushes
  rw [List.take_add_one, List.map_append]
  simp [hk]
theorem cells2_new {w : World} {g : Nat} (hg : w.heap.size = g) (c0 c1 : Value) (t : TypeId) : ∀ (j : Nat) (u : Value), [c0, c1][j]? = some u → (w.alloc (.cells #[c0, c1] t)).cell? ((⟨g, 0, none⟩ : Addr).add j) = some u := by
  subst hg
  intro j u h
  rw [Addr.add_lit, Nat.zero_add]
  have := (block_cells (heap_alloc_new w (.cells #[c0, c1] t))).1 j
  rw [this]
  simpa using h
theorem one2 (a : Int) (p : Option Addr) (n c : Nat) : ∀ u ∈ ([.int .i64 a, .slice p n c] : List Value), u.oneCell' = true := by
  intro u hu
  simp at hu
  rcases hu with rfl | rfl <;> rfl
theorem alwN_few {s : Int} (h1 : 1 ≤ s) (h2 : s ≤ 4) : (alwN s 5).length ≤ 3 := by
  rcases four h1 h2 with rfl | rfl | rfl | rfl <;> decide
theorem alwN_in {s t : Int} (h : t ∈ alwN s 5) : (nx s t true).2 = 0 ∧ 1 ≤ (nx s t true).1 ∧ (nx s t true).1 ≤ 4 := by
  by_cases h1 : s < 1 ∨ 4 < s
  · rw [alwN_out h1] at h
    cases h
  · rcases four (s := s) (by omega) (by omega) with rfl | rfl | rfl | rfl <;> revert t <;> decide
set_option maxHeartbeats 8000000 in
set_option maxRecDepth 100000 in
theorem route_in (fr tg : Int) (R : Option (List Int)) (hf1 : 1 ≤ fr) (hf2 : fr ≤ 4) (ht1 : 1 ≤ tg) (ht2 : tg ≤ 4) (hbfs : bfs tg 30 [(fr, [])] (fun _ => false) = some R) (w : World) (hR : Rules w) :
    Calls Tryd.prog 7 #[.int .i64 fr, .int .i64 tg] w fun e w' => ∃ v, e = .returned (.tuple #[v, .int .i64 (if R.isSome then 0 else 6)]) ∧ RdI w' v (R.getD []) ∧ Below w.heap.size w w' := by
  obtain ⟨i0, hi, hz0, hz1, hz2⟩ := info_parts info49
  obtain ⟨j0, ji, jz0, jz1, jz2⟩ := info_parts info3
  have hpos := hR.pos
  have hc1 : (decide (1 ≤ fr) && decide (fr ≤ 4)) = true := by simp; omega
  have hc2 : (decide (1 ≤ tg) && decide (tg ≤ 4)) = true := by simp; omega
  have HR := hid hR
  have HBF := hid hbfs
  have H31a : Hid (∀ w, Calls Tryd.prog 31 #[.int .i64 fr, .int .i64 1, .int .i64 4] w fun e w' => e = .returned (.bool true) ∧ w = w') := hid (fun w => by have := in31 fr 1 4 w; rwa [hc1] at this)
  have H31b : Hid (∀ w, Calls Tryd.prog 31 #[.int .i64 tg, .int .i64 1, .int .i64 4] w fun e w' => e = .returned (.bool true) ∧ w = w') := hid (fun w => by have := in31 tg 1 4 w; rwa [hc2] at this)
  clear hR hbfs hc1 hc2
  go_enter Tryd.func7, Tryd.ntmps7
  go_wp2_with (first
    | (go_at_call 31; first | ((with_reducible refine (H31a.out _).mono ?_); rintro e w1 ⟨rfl, rfl⟩) | ((with_reducible refine (H31b.out _).mono ?_); rintro e w1 ⟨rfl, rfl⟩)))
  go_loopg [6, 8, 10, 11, 12] 30 (fun gk s6 s8 s10 s11 s12 wr => ∃ (b off cap : Nat) (ws : List (Int × List Int)) (seen : Nat → Bool), s6 = .slice (some ⟨b, off, none⟩) ws.length cap ∧ Hid (Sq w wr b off cap (w.heap.size + 1) (31 - gk) ws seen) ∧ bfs tg gk ws seen = some R ∧ ws.length + 3 * gk ≤ 91 ∧ gk ≤ 30)
  case atStart =>
    refine ⟨w.heap.size, 0, 1, [(fr, [])], fun _ => false, rfl, hid ?_, HBF.out, by simp, by omega⟩
    refine ⟨?_, ?_, Nat.le_refl _, by omega, by simp, by omega, fun i hi => ?_, fun i hi => ?_, [.int .i64 fr, .slice none 0 0], ?_, ?_⟩
    · exact ((Below.refl _ _).alloc (Nat.le_refl _) _).alloc (by simp) _
    · exact HR.out.below hpos (((Below.refl _ _).alloc (Nat.le_refl _) _).alloc (by simp) _)
    · have hi' : i = 0 ∨ i = 1 ∨ i = 2 ∨ i = 3 ∨ i = 4 := by omega
      rcases hi' with rfl | rfl | rfl | rfl | rfl <;> go_simp <;> simp
    · go_simp
    · refine ⟨rfl, Nat.le_refl _, by unfold maxLen; simp, by simp <;> omega, fun j u e => ?_, fun j hj => ?_, fun j hj => ?_⟩
      · have hj : j < 2 := (List.getElem?_eq_some_iff.1 e).1
        have hj' : j = 0 ∨ j = 1 := by omega
        rcases hj' with rfl | rfl <;> simp at e <;> subst e <;> go_simp <;> simp
      · have hj' : j = 0 ∨ j = 1 := by omega
        rcases hj' with rfl | rfl <;> go_simp <;> simp
      · go_simp
    · exact ⟨_, [], rfl, hf1, hf2, by simp, ⟨none, 0, rfl, Nat.le_refl _, fun h => absurd h (by simp)⟩, rfl⟩
  case round =>
    obtain ⟨b, off, cap, ws, seen, rfl, hst, hbf, hlen, hgk⟩ := hrel
    cases gk with
    | zero => exact absurd hbf (by intro h; cases h)
    | succ f =>
    cases ws with
    | nil =>
      have hRn : none = R := by injection hbf
      subst hRn
      have hb := hst.out.bel
      go_wp2_with fail
      refine bodyPost_ret (v := .tuple #[.slice none 0 0, .int .i64 6]) (by simp [results, Tryd.results7, go_sem]) rfl ?_
      exact ⟨_, rfl, ⟨none, 0, rfl, Nat.le_refl _, Nat.zero_le _, fun h => absurd h (by simp)⟩, hb⟩
    | cons x r =>
      obtain ⟨s, d⟩ := x
      obtain ⟨xs, hwin, hways⟩ := hst.out.ways
      obtain ⟨v, ys, rfl, hs1, hs2, hd, hrx, hrest⟩ := hways
      have hrx0 := hrx
      obtain ⟨a, capd, rfl, hcd, -⟩ := hrx0
      have HX := hid hrx
      have HREST := hid hrest
      have HWIN := hid hwin
      have x0 : wr.cell? ⟨b, off, none⟩ = some (.int .i64 s) := hwin.cell 0 _ rfl
      have x1 : wr.cell? ⟨b, off + 1, none⟩ = some (.slice a d.length capd) := hwin.cell 1 _ rfl
      have hwl := hwin.le
      have hwm := hwin.cm
      simp only [List.length_cons] at hwl hlen
      have hcapI : (1 : Int) ≤ (cap : Int) := by omega
      have hnI : (1 : Int) ≤ ((r.length + 1 : Nat) : Int) := by omega
      have hbl := hwin.lt
      have hbf' : Hid ((if s = tg then some (some d) else if seen s.toNat = true then bfs tg f r seen else bfs tg f (r ++ pushes s d (alwN s 5)) (mark seen s.toNat)) = some R) := hid hbf
      clear hbf hrest hwin hrx
      simp only [List.length_cons]
      go_upto_region 8 with fail
      obtain ⟨off', hoff, hwt⟩ : ∃ off', (if cap = 1 then some (⟨b, off, none⟩ : Addr) else some ⟨b, off + 2, none⟩) = some ⟨b, off', none⟩ ∧ Win wr b off' r.length (cap - 1) ys := by
        have hw := HWIN.out
        rcases Nat.eq_zero_or_pos r.length with h0 | hp
        · have hr0 : r = [] := List.eq_nil_of_length_eq_zero h0
          subst hr0
          have hys : ys = [] := HREST.out
          subst hys
          by_cases hc : cap = 1
          · subst hc
            exact ⟨off, if_pos rfl, hw.tail0⟩
          · exact ⟨off + 2, if_neg hc, hw.tail⟩
        · exact ⟨off + 2, if_neg (by omega), hw.tail⟩
      have HWT := hid hwt
      simp only [hoff]
      clear hoff hwt
      have hps : (⟨w.heap.size + 1, 0, none⟩ : Addr).block ≠ wr.heap.size := by have := hst.out.sl; dsimp only; omega
      have hI0 : (0 : Int) ≤ s := by omega
      have hI5 : s < 5 := by omega
      have hsl := hst.out.sl
      have hsz := hst.out.bel.size
      have y0 : wr.cell? ⟨w.heap.size + 1, s.toNat, none⟩ = some (.bool (seen s.toNat)) := hst.out.seen _ (by omega)
      have yz : wr.frozen? ⟨w.heap.size + 1, s.toNat, none⟩ = false := hst.out.sfz _ (by omega)
      have nsB : ¬ (w.heap.size + 1 = wr.heap.size) := by omega
      by_cases hst' : s = tg
      · subst hst'
        have hRd : some d = R := by have := hbf'.out; rw [if_pos rfl] at this; injection this
        subst hRd
        go_wp2_with fail
        refine bodyPost_ret (v := .tuple #[.slice a d.length capd, .int .i64 0]) (by simp [results, Tryd.results7, go_sem]) rfl ?_
        have hB1 : Below wr.heap.size wr (wr.alloc (.cells #[.int .i64 s, .slice a d.length capd] 49)) := (Below.refl _ _).alloc (Nat.le_refl _) _
        exact ⟨_, rfl, rdI_below (HX.out.rd (by unfold maxLen; omega)) hB1, hst.out.bel.trans (hB1.mono hst.out.bel.size)⟩
      · by_cases hsn : seen s.toNat = true
        · rw [hsn] at y0
          have hbf2 : bfs tg f r seen = some R := by have := hbf'.out; rwa [if_neg hst', if_pos hsn] at this
          have HB2 := hid hbf2
          have hB1 : Below wr.heap.size wr (wr.alloc (.cells #[.int .i64 s, .slice a d.length capd] 49)) := (Below.refl _ _).alloc (Nat.le_refl _) _
          have hS : Hid (Sq w (wr.alloc (.cells #[.int .i64 s, .slice a d.length capd] 49)) b off' (cap - 1) (w.heap.size + 1) (31 - f) r seen) := hid (Sq.below ⟨hst.out.bel, hst.out.rules, hst.out.b0, hst.out.s0, hst.out.sl, hst.out.bs, hst.out.seen, hst.out.sfz, ys, HWT.out, HREST.out.mono (by omega)⟩ hpos hB1)
          clear hbf2
          go_wp2_with fail
          go_roundg f
          case measure => omega
          case rel => exact ⟨b, off', cap - 1, r, seen, rfl, hS, HB2.out, by omega, by omega⟩
        · have hsn' : seen s.toNat = false := by simpa using hsn
          have hbf2 : bfs tg f (r ++ pushes s d (alwN s 5)) (mark seen s.toNat) = some R := by have := hbf'.out; rwa [if_neg hst', if_neg hsn] at this
          have HB2 := hid hbf2
          clear hbf2 hbf'
          rw [hsn'] at y0
          go_upto_region 12 with fail
          obtain ⟨wA, hwA⟩ : ∃ wA, wA = (wr.setCell ⟨w.heap.size + 1, s.toNat, none⟩ (.bool true)).alloc (.cells #[.int .i64 s, .slice a d.length capd] 49) := ⟨_, rfl⟩
          have hsA : wA.heap.size = wr.heap.size + 1 := by rw [hwA, alloc_size, set_size]
          have hkA : ∀ k, k < wr.heap.size → k ≠ w.heap.size + 1 → wA.heap[k]? = wr.heap[k]? := fun k hk hne => by
            rw [hwA]
            show ((wr.setCell _ _).heap.push _)[k]? = _
            rw [Array.getElem?_push_lt (by rw [set_size]; exact hk), ← Array.getElem?_eq_getElem]
            exact Below.heap_setCell _ _ _ _ (fun e => hne e)
          have hp0 : wA.cell? ⟨wr.heap.size, 0, none⟩ = some (.int .i64 s) := by rw [hwA]; go_simp
          have hp1 : wA.cell? ⟨wr.heap.size, 1, none⟩ = some (.slice a d.length capd) := by rw [hwA]; go_simp
          have hSA : Sq w wA b off' (cap - 1) (w.heap.size + 1) (31 - f) r (mark seen s.toNat) := by
            refine ⟨?_, ?_, hst.out.b0, hst.out.s0, by omega, hst.out.bs, fun i hi => ?_, fun i hi => ?_, ys, HWT.out.of (by omega) (hkA _ hbl hst.out.bs), (HREST.out.mono (by omega)).keep (by omega) (fun k hk _ hne => hkA k hk hne) (Or.inl rfl)⟩
            · exact ⟨by rw [hwA]; exact hst.out.bel.os, by rw [hwA]; exact hst.out.bel.tape, by rw [hwA]; exact hst.out.bel.output, by omega, fun k hk => (hkA k (by omega) (by omega)).trans (hst.out.bel.block k hk)⟩
            · intro i v e
              exact (World.cell?_of_block (hkA 0 (by omega) (by omega))).trans (hst.out.rules i v e)
            · rw [hwA]
              by_cases hi : i = s.toNat
              · subst hi
                go_simp
                simp [mark]
              · have := hst.out.seen i (by omega)
                go_simp
                simp [mark, hi]
            · rw [hwA]
              have := hst.out.sfz i hi
              go_simp
          rw [← hwA]
          clear hwA
          have hds : d.length ≤ 31 - (f + 1) := hd
          have HFEW := hid (alwN_few hs1 hs2)
          have HIN := hid (fun (t : Int) (h : t ∈ alwN s 5) => alwN_in h)
          have HXA : Hid (RdX wA b (w.heap.size + 1) (.slice a d.length capd) d) := hid (HX.out.keep (by omega) (fun k hk _ hne => hkA k hk hne) (Or.inl rfl))
          have HAL := hid (allowed_any s wA hSA.rules)
          have HSA := hid hSA
          have hlenA := hlen
          clear hSA hkA x0 x1 y0 yz HX HWT HREST HWIN hst
          generalize alwN s 5 = L at *
          go_wp2_with (first
            | (go_at_call 25; (with_reducible refine (HAL.out).mono ?_); rintro e w2 ⟨vL, rfl, hownL, hbL⟩; have hsL := hbL.size; have HRL := hid (rdX_own hownL (b := b) (sB := w.heap.size + 1) (by omega) (by omega)); obtain ⟨aL, capL, hvL, hcL, hrL⟩ := HRL.out; subst hvL; clear hownL hrL
               have HS2 := hid (HSA.out.below hpos hbL)
               have HX2 : Hid (RdX w2 b (w.heap.size + 1) (.slice a d.length capd) d) := hid (HXA.out.keep hbL.size (fun k hk _ _ => hbL.block k hk) (Or.inl rfl))
               have q0 := (hbL.cell (p := ⟨wr.heap.size, 0, none⟩) (by dsimp only; omega)).trans hp0
               have q1 := (hbL.cell (p := ⟨wr.heap.size, 1, none⟩) (by dsimp only; omega)).trans hp1))
          have hsA' : w.heap.size < wA.heap.size := by omega
          generalize hP0 : wr.heap.size = P0 at *
          go_loopg [6, 10, 11, 12, 49] L.length (fun ig z6 z10 z11 z12 z49 wr => ∃ (k b2 off2 cap2 : Nat) (ws2 : List (Int × List Int)), ig = L.length - k ∧ k ≤ L.length ∧ z49 = .int .i64 k ∧ z6 = .slice (some ⟨b2, off2, none⟩) ws2.length cap2 ∧ Hid (ws2 = r ++ pushes s d (L.take k)) ∧ Hid (Sq w wr b2 off2 cap2 (w.heap.size + 1) (31 - f) ws2 (mark seen s.toNat)) ∧ Hid (RdX wr b2 (w.heap.size + 1) (.slice a d.length capd) d) ∧ Hid (RdX wr b2 (w.heap.size + 1) (.slice aL L.length capL) L) ∧ b2 ≠ P0 ∧ P0 < wr.heap.size ∧ wr.cell? ⟨P0, 0, none⟩ = some (.int .i64 s) ∧ wr.cell? ⟨P0, 1, none⟩ = some (.slice a d.length capd))
          case atStart => exact ⟨0, b, off', cap - 1, r, rfl, Nat.zero_le _, rfl, rfl, hid (by simp [pushes]), HS2, HX2, HRL, by omega, by omega, q0, q1⟩
          case round =>
            obtain ⟨k, b2, off2, cap2, ws2, hig, hk, rfl, rfl, HW2, HSi, HXi, HLi, hbp, hpi, c0, c1⟩ := hrel
            clear q0 q1 hp0 hp1
            have HIG := hid hig
            clear hig
            by_cases hkL : k < L.length
            · obtain ⟨gL, oL, rfl, hgL, hLb, hLs, hLc⟩ := (by obtain ⟨a', cap', e1, _, e3⟩ := HLi.out; injection e1 with e1 _ _; subst e1; exact e3 (by omega) : ∃ g off, aL = some ⟨g, off, none⟩ ∧ g < wr.heap.size ∧ g ≠ b2 ∧ g ≠ w.heap.size + 1 ∧ ∀ i u, L[i]? = some u → wr.cell? ⟨g, off + i, none⟩ = some (.int .i64 u))
              have hLg : L[k]? = some L[k] := by simp [hkL]
              have lc := hLc k _ hLg
              obtain ⟨n0, n1, n2⟩ := HIN.out L[k] (List.getElem_mem hkL)
              have HPT := hid (pushes_take s d L hkL)
              have HNX := hid (next_any s L[k] true wr HSi.out.rules)
              clear hLc hLg
              rw [n0] at HNX
              clear n0
              generalize (nx s L[k] true).1 = S' at *
              generalize L[k] = T at *
              obtain ⟨xs2, hwin2, hways2⟩ := HSi.out.ways
              have HWIN2 := hid hwin2
              have HWY2 := hid hways2
              clear hwin2 hways2
              have hkI : (k : Int) < (L.length : Int) := by omega
              have hkI0 : (0 : Int) ≤ (k : Int) := by omega
              have hdd : d.length ≤ 30 := by omega
              have hL3 : L.length ≤ 3 := HFEW.out
              have HWL : Hid (ws2.length ≤ 100) := hid (by rw [HW2.out]; simp [pushes]; have := HFEW.out; omega)
              have hbi := HSi.out.b0
              have hbis := HWIN2.out.lt
              have hsi := HSi.out.sl
              go_wp2_with (first
                | (go_at_call 23; (with_reducible refine (HNX.out).mono ?_); rintro e w3 ⟨rfl, hb3⟩; have hs3 := hb3.size
                   have hP3 : P0 < w3.heap.size := by omega
                   have e1 := (hb3.cell (p := ⟨P0, 1, none⟩) (by dsimp only; omega)).trans c1
                   have HX3 : Hid (RdI (w3.alloc (.cells #[] 3)) (.slice a d.length capd) d) := hid (rdI_below (rdI_below (HXi.out.rd (by unfold maxLen; omega)) hb3) ((Below.refl _ _).alloc (Nat.le_refl _) _)))
                | (at_builtin; (refine wpList_append_rd rfl _ _ rfl ji jz0 jz1 jz2 w3.heap.size (.slice (some ⟨w3.heap.size, 0, none⟩) 0 0) [] (by rfl) (own_none w3) (.slice a d.length capd) d (by rfl) HX3.out (by simp only [List.length_nil]; omega) (by rw [alloc_size]; omega) ?_
                                intro v4 w4 hown4 hgrow4 hat4
                                have HG4 := hid hgrow4
                                have HO4 := hid hown4
                                clear hgrow4 hown4))
                | (at_builtin; (refine wpList_append_lies _ rfl _ _ 22 rfl w3.heap.size 3 j0 (.int .i64 0) 1 8 Tryd.underlying22 ji jz0 jz1 jz2 int_size (by decide) v4 ([] ++ d).length (ints ([] ++ d)) (by rfl) (HO4.out.alloc _) ⟨w4.heap.size, 0, none⟩ 1 1 [.int .i64 T] (by rfl) rfl (cell_one_new _ _ _) (one1 _) (by decide) (by rw [List.nil_append]; unfold maxLen; omega) (by rw [List.nil_append]; omega) (by have := HG4.out.size; rw [alloc_size] at this ⊢; omega) (w4.heap.size + 1) (by rw [alloc_size]) ?_
                                intro g5 cap5 w5 hown5 hgrow5 hat5 hlt5
                                have HG5 := hid hgrow5
                                have HO5 := hid hown5
                                have HA5 := hid hat5
                                have hs4 := HG4.out.size
                                have hs5 := HG5.out.size
                                rw [alloc_size] at hs4 hs5
                                clear hgrow5 hown5 hat5
                                have B3 : Below wr.heap.size wr w3 := hb3
                                have B4 : Below wr.heap.size wr w4 := below_app B3 HG4.out (fun k e => by have e' : some w3.heap.size = some k := e; injection e' with e'; omega)
                                have B5 : Below wr.heap.size wr w5 := below_app B4 HG5.out (fun k e => by have := (HO4.out.lt k e).1; omega)
                                have BZ : Hid (∀ o, Below wr.heap.size wr (w5.alloc o)) := hid (fun o => B5.alloc (by omega) o)
                                have hown5' : w5.ownsRow w3.heap.size 3 1 (.slice (some ⟨g5, 0, none⟩) (d ++ [T]).length cap5) (d ++ [T]).length (ints (d ++ [T])) := by rw [ints_app, List.length_append]; exact HO5.out
                                have HO6 := hid hown5'
                                clear hown5'
                                clear B3 B4 B5))
                | (at_builtin; (refine wpList_append_win rfl _ _ rfl hi hz0 hz1 hz2 b2 off2 ws2.length cap2 xs2 (by rfl) (HWIN2.out.below (BZ.out _)) ⟨w5.heap.size, 0, none⟩ 1 (.int .i64 S') (.slice (some ⟨g5, 0, none⟩) (([] ++ d).length + 1) cap5) (by rfl) (cells2_new rfl _ _ _) (one2 _ _ _ _) (by have := HWL.out; omega) ?_
                                intro b7 off7 cap7 w7 hwin7 hgrow7 hat7
                                have HW7 := hid hwin7
                                have HG7 := hid hgrow7
                                clear hwin7 hgrow7)))
              have hbz := (BZ.out (.cells #[.int .i64 S', .slice (some ⟨g5, 0, none⟩) (d.length + 1) cap5] 49))
              obtain ⟨wZ, hwZ⟩ : ∃ wZ, wZ = w5.alloc (.cells #[.int .i64 S', .slice (some ⟨g5, 0, none⟩) (d.length + 1) cap5] 49) := ⟨_, rfl⟩
              have hZ5 : Below w5.heap.size w5 wZ := by rw [hwZ]; exact (Below.refl _ _).alloc (Nat.le_refl _) _
              have hg7 : wZ.grownBy w7 (some b2) := by rw [hwZ]; exact HG7.out
              rw [← hwZ] at hbz hat7
              have hw7 : Win w7 b7 off7 (ws2 ++ [(S', d ++ [T])]).length cap7 (xs2 ++ [.int .i64 S', .slice (some ⟨g5, 0, none⟩) (d ++ [T]).length cap5]) := by
                have := HW7.out
                simpa using this
              clear hwZ BZ HG7 HW7
              have hszZ := hbz.size
              have hk7 : ∀ j, j < wZ.heap.size → j ≠ b2 → w7.heap[j]? = wZ.heap[j]? := fun j hj hne => hg7.block j hj (fun e => hne (by injection e))
              have hkk : ∀ j, j < wr.heap.size → j ≠ b2 → w7.heap[j]? = wr.heap[j]? := fun j hj hne => (hk7 j (by omega) hne).trans (hbz.block j hj)
              have hsz7 := hg7.size
              have hSZ := HSi.out.below hpos hbz
              have hyZ := HWY2.out.keep hszZ (fun j hj _ _ => hbz.block j hj) (Or.inl rfl)
              have hvZ : RdX wZ b2 (w.heap.size + 1) (.slice (some ⟨g5, 0, none⟩) (d ++ [T]).length cap5) (d ++ [T]) := (rdX_own HO6.out (by omega) (by omega)).keep hZ5.size (fun j hj _ _ => hZ5.block j hj) (Or.inl rfl)
              have hS7 := hSZ.push hpos hyZ hw7 hg7 hat7 n1 n2 (by simp; omega) hvZ
              have HS7 := hid hS7
              have HX7 := hid (HXi.out.keep (by omega) (fun j hj hne _ => hkk j hj hne) (show b7 = b2 ∨ wr.heap.size ≤ b7 by omega))
              have HL7 := hid (HLi.out.keep (by omega) (fun j hj hne _ => hkk j hj hne) (show b7 = b2 ∨ wr.heap.size ≤ b7 by omega))
              have p0 : w7.cell? ⟨P0, 0, none⟩ = some (.int .i64 s) := (World.cell?_of_block (hkk P0 hpi (Ne.symm hbp))).trans c0
              have p1 : w7.cell? ⟨P0, 1, none⟩ = some (.slice a d.length capd) := (World.cell?_of_block (hkk P0 hpi (Ne.symm hbp))).trans c1
              clear hS7 hvZ hyZ hSZ hkk hk7 hg7 hw7 hbz hZ5
              go_roundg (L.length - (k + 1))
              case measure => have := HIG.out; omega
              case rel =>
                refine ⟨k + 1, b7, off7, cap7, ws2 ++ [(S', d ++ [T])], rfl, by omega, by go_num, by simp, hid ?_, HS7, HX7, HL7, by omega, by omega, p0, p1⟩
                rw [HPT.out, HW2.out, List.append_assoc]
            · obtain rfl : k = L.length := by omega
              go_wp2_with fail
              go_roundg f
              case measure => omega
              case rel =>
                refine ⟨b2, off2, cap2, ws2, mark seen s.toNat, rfl, HSi, ?_, ?_, by omega⟩
                · rw [HW2.out, List.take_length]
                  exact HB2.out
                · rw [HW2.out, List.take_length]
                  have := HFEW.out
                  simp [pushes]
                  omega
end Go.Proofs.YthklehpekglohaaDoor
