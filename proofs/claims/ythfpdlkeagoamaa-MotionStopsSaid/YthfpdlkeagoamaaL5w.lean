import Derived.Test.YthfpdlkeagoamaaWl
import Derived.Test.YthfpdlkeagoamaaFrame3
import Derived.Test.YthfpdlkeagoamaaMot4
import Derived.Deep.AppendLies
import Derived.Deep.DeepCutAuto
namespace Go.Proofs.Ythfpdlkeagoamaa.motionStops
open Go.RowKit
set_option linter.unusedVariables false
theorem flat_get : ∀ (L : List Mo) (i : Nat) (m : Mo), L[i]? = some m → (flat L)[i * 4]? = some (.int .i64 m.px) ∧ (flat L)[i * 4 + 1]? = some (.int .i64 m.py) ∧ (flat L)[i * 4 + 2]? = some (.int .i64 m.vx) ∧ (flat L)[i * 4 + 3]? = some (.int .i64 m.vy)
  | [], _, _, h => by simp at h
  | a :: L, 0, m, h => by
    simp at h
    subst h
    simp [flat, Mo.cells]
  | a :: L, i + 1, m, h => by
    have := flat_get L i m (by simpa using h)
    have e : flat (a :: L) = a.cells ++ flat L := by simp [flat]
    rw [e, show (i + 1) * 4 = i * 4 + 4 from by omega]
    have el : a.cells.length = 4 := rfl
    refine ⟨?_, ?_, ?_, ?_⟩
    · rw [List.getElem?_append_right (by omega), el, show i * 4 + 4 - 4 = i * 4 from by omega]; exact this.1
    · rw [List.getElem?_append_right (by omega), el, show i * 4 + 4 + 1 - 4 = i * 4 + 1 from by omega]; exact this.2.1
    · rw [List.getElem?_append_right (by omega), el, show i * 4 + 4 + 2 - 4 = i * 4 + 2 from by omega]; exact this.2.2.1
    · rw [List.getElem?_append_right (by omega), el, show i * 4 + 4 + 3 - 4 = i * 4 + 3 from by omega]; exact this.2.2.2
theorem len_ge {L : List Mo} {i : Nat} (h : i < L.length) (j : Nat) (hj : j < 4) : i * 4 + j < L.length * 4 := by omega
/-- Stop, one by one -/
theorem stop_get (m0 : Mo) {S A B H M : Int} (h : m0.ok S A B H M) {n : Nat} (hn : (stopL B 4097 m0).length = n + 1) (w : World) : Calls Try.prog 20 #[mo m0.px m0.py m0.vx m0.vy, lim S A B H M] w fun e w' => ∃ g cap, e = .returned (.slice (some ⟨g, 0, none⟩) (n + 1) cap) ∧ g < w'.heap.size ∧ w.heap.size ≤ g ∧
    (∀ i, i < n + 1 → w'.cell? ⟨g, i * 4, none⟩ = some (.int .i64 (itm B (i + 1) m0).px) ∧ w'.cell? ⟨g, i * 4 + 1, none⟩ = some (.int .i64 (itm B (i + 1) m0).py) ∧ w'.cell? ⟨g, i * 4 + 2, none⟩ = some (.int .i64 (itm B (i + 1) m0).vx) ∧ w'.cell? ⟨g, i * 4 + 3, none⟩ = some (.int .i64 (itm B (i + 1) m0).vy)) ∧ Below w.heap.size w w' := by
  have hl := ok_len h
  obtain ⟨_, _, hs3, _⟩ := ok_sqr h
  obtain ⟨a, b, c⟩ := stopL_spec 4097 m0 h (by omega)
  refine (stop_yes m0.px m0.py m0.vx m0.vy S A B H M h w).mono fun e w' ⟨v, he, hown, hb⟩ => ?_
  have hown' : w'.ownsRow (w.heap.size + 1 + 1) 25 4 v (n + 1) (flat (stopL B 4097 m0)) := by rw [← hn]; exact hown
  obtain ⟨g, cap, rfl, hgb, hgl⟩ := hown'.form (by omega)
  refine ⟨g, cap, he, hgl, by omega, fun i hi => ?_, hb⟩
  have k := flat_get _ i _ (a i (by rw [hn]; exact hi)).1
  exact ⟨(hown'.cellAt (i * 4) (by omega)).trans k.1, (hown'.cellAt (i * 4 + 1) (by omega)).trans k.2.1, (hown'.cellAt (i * 4 + 2) (by omega)).trans k.2.2.1, (hown'.cellAt (i * 4 + 3) (by omega)).trans k.2.2.2⟩
theorem stop_none (m0 : Mo) {S A B H M : Int} (h : m0.ok S A B H M) (hs : m0.vx = 0 ∧ m0.vy = 0) (w : World) : Calls Try.prog 20 #[mo m0.px m0.py m0.vx m0.vy, lim S A B H M] w fun e w' => ∃ a cap, e = .returned (.slice a 0 cap) ∧ Below w.heap.size w w' := by
  refine (stop_yes m0.px m0.py m0.vx m0.vy S A B H M h w).mono fun e w' ⟨v, he, hown, hb⟩ => ?_
  rw [show (⟨m0.px, m0.py, m0.vx, m0.vy⟩ : Mo) = m0 from rfl, stopL_end hs.1 hs.2] at hown
  rcases hown.2 with ⟨rfl, _⟩ | ⟨g, cap, cur, rfl, _⟩
  · exact ⟨none, 0, he, hb⟩
  · exact ⟨some ⟨g, 0, none⟩, cap, he, hb⟩
theorem brake_of (m : Mo) {S A B H M : Int} (h : m.ok S A B H M) (w : World) : Calls Try.prog 18 #[mo m.px m.py m.vx m.vy, lim S A B H M] w fun e w' => e = .returned (pt (brk1 B m).vx (brk1 B m).vy) ∧ Below w.heap.size w w' := by
  have := brake_any m.px m.py m.vx m.vy S A B H M w
  have e : vld m.px m.py m.vx m.vy S A B H M = true := h
  rw [show brX m.px m.py m.vx m.vy S A B H M = (brk1 B m).vx from by unfold brX; rw [e]; rfl, show brY m.px m.py m.vx m.vy S A B H M = (brk1 B m).vy from by unfold brY; rw [e]; rfl] at this
  exact this
theorem length_mo (m : Mo) {S A B H M : Int} (h : m.ok S A B H M) (w : World) : Calls Try.prog 21 #[pt m.vx m.vy] w fun e w' => e = .returned (.int .i64 m.len) ∧ Below w.heap.size w w' := by
  have := vld_abs h
  exact length_of (by omega) (by omega) (by omega) (by omega) w
set_option maxRecDepth 100000 in
set_option maxHeartbeats 2000000 in
theorem bad (px py vx vy : Int) (S A B H M : Int) (ev : vld px py vx vy S A B H M = false) (w : World) : Calls Try.prog 7 #[mo px py vx vy, lim S A B H M] w fun e w' => e = .returned (.bool true) ∧ Below w.heap.size w w' := by
  have HV := hid (rvalid_of ev)
  have HS := hid (stop_no px py vx vy S A B H M ev)
  clear ev
  go_enter Try.func7, Try.ntmps7
  go_wp2_with (first
    | (go_at_call 20; (with_reducible refine (HS.out _).mono ?_); rintro e w2 ⟨rfl, hb⟩; obtain ⟨hc, hf⟩ := bcell hb; have hz : w.heap.size < w2.heap.size := (by have := hb.size; simp at this; omega); have hz' : w.heap.size + 1 < w2.heap.size := (by have := hb.size; simp at this; omega))
    | (go_at_call 13; (with_reducible refine (HV.out _).mono ?_); rintro e w3 ⟨rfl, hb3⟩)
    | (go_at_call 14; refine (awake_any _).mono ?_; rintro e w5 ⟨rfl, hb5⟩))
  go_ret
  exact ⟨rfl, ((box2 hb).trans (hb3.mono (by omega))).trans (hb5.mono (by have := hb3.size; omega))⟩
set_option maxRecDepth 100000 in
set_option maxHeartbeats 2000000 in
theorem zero (m0 : Mo) (S A B H M : Int) (h : m0.ok S A B H M) (hs : m0.vx = 0 ∧ m0.vy = 0) (w : World) : Calls Try.prog 7 #[mo m0.px m0.py m0.vx m0.vy, lim S A B H M] w fun e w' => e = .returned (.bool true) ∧ Below w.heap.size w w' := by
  have HV := hid (rvalid_of h)
  have HS := hid (stop_none m0 h hs)
  have q1 : ∀ w, (binOp .eql 23 (pt m0.vx m0.vy) (pt 0 0)).run Try.prog w = .ok (.bool true) w := fun w => by rw [eql_pt, hs.1, hs.2]; rfl
  clear h hs
  go_enter Try.func7, Try.ntmps7
  go_wp2_with (first
    | (go_at_call 20; (with_reducible refine (HS.out _).mono ?_); rintro e w2 ⟨a, cap, rfl, hb⟩; obtain ⟨hc, hf⟩ := bcell hb; have hz : w.heap.size < w2.heap.size := (by have := hb.size; simp at this; omega); have hz' : w.heap.size + 1 < w2.heap.size := (by have := hb.size; simp at this; omega))
    | (go_at_call 13; (with_reducible refine (HV.out _).mono ?_); rintro e w3 ⟨rfl, hb3⟩; obtain ⟨hc3, hf3⟩ := bcell hb3)
    | (go_at_call 14; refine (awake_any _).mono ?_; rintro e w5 ⟨rfl, hb5⟩))
  go_ret
  exact ⟨rfl, ((box2 hb).trans (hb3.mono (by omega))).trans (hb5.mono (by have := hb3.size; omega))⟩
set_option maxRecDepth 100000 in
set_option maxHeartbeats 8000000 in
theorem core (m0 : Mo) (S A B H M : Int) (h : m0.ok S A B H M) (hs : ¬ (m0.vx = 0 ∧ m0.vy = 0)) (n : Nat) (hn : (stopL B 4097 m0).length = n + 1) (w : World) : Calls Try.prog 7 #[mo m0.px m0.py m0.vx m0.vy, lim S A B H M] w fun e w' => e = .returned (.bool true) ∧ Below w.heap.size w w' := by
  have HV := hid (rvalid_of h)
  have HS := hid (stop_get m0 h hn)
  have q1 : ∀ w, (binOp .eql 23 (pt m0.vx m0.vy) (pt 0 0)).run Try.prog w = .ok (.bool false) w := fun w => by
    rw [eql_pt]
    by_cases h' : m0.vx = 0
    · rw [decide_eq_true h', decide_eq_false (fun h2 => hs ⟨h', h2⟩)]; rfl
    · rw [decide_eq_false h']; rfl
  have hl := ok_len h
  obtain ⟨_, hs2, hs3, hs4, hs5, _⟩ := ok_sqr h
  obtain ⟨spec, last, hle⟩ := stopL_spec 4097 m0 h (by omega)
  rw [hn] at spec last hle
  have hnS : (n : Int) + 1 ≤ S := by push_cast at hle; omega
  have HSP := hid spec
  have HL := hid last
  have HK := hid h
  clear h hs spec last hn hle
  go_enter Try.func7, Try.ntmps7
  go_upto_region 4 with (first
    | (go_at_call 20; (with_reducible refine (HS.out _).mono ?_); rintro e w2 ⟨g, cap, rfl, hgl, hgb, hcs, hb⟩; obtain ⟨hc, hf⟩ := bcell hb; have HCS := hid hcs; clear hcs; have hz : w.heap.size < w2.heap.size := (by have := hb.size; simp at this; omega); have hz' : w.heap.size + 1 < w2.heap.size := (by have := hb.size; simp at this; omega))
    | (go_at_call 13; (with_reducible refine (HV.out _).mono ?_); rintro e w3 ⟨rfl, hb3⟩; obtain ⟨hc3, hf3⟩ := bcell hb3; have hs3 := hb3.size; have z3 : g < w3.heap.size := (by omega)))
  clear q1 HS HV
  obtain ⟨_, _, t2, t3⟩ := HCS.out n (by omega)
  rw [show (itm B (n + 1) m0).vx = 0 from HL.out.1] at t2
  rw [show (itm B (n + 1) m0).vy = 0 from HL.out.2] at t3
  have t3' : w2.cell? ⟨g, n * 4 + 2 + 1, none⟩ = some (.int .i64 0) := t3
  have hn0 : (0 : Int) ≤ (n : Int) := by omega
  have hn1 : (n : Int) < (n : Int) + 1 := by omega
  have z3a : w.heap.size < w3.heap.size := by omega
  have z3b : w.heap.size + 1 < w3.heap.size := by omega
  have HB3 : Below w.heap.size w w3 := (box2 hb).trans (hb3.mono (by omega))
  have HCS3 : Hid (∀ i, i < n + 1 → w3.cell? ⟨g, i * 4, none⟩ = some (.int .i64 (itm B (i + 1) m0).px) ∧ w3.cell? ⟨g, i * 4 + 1, none⟩ = some (.int .i64 (itm B (i + 1) m0).py) ∧ w3.cell? ⟨g, i * 4 + 2, none⟩ = some (.int .i64 (itm B (i + 1) m0).vx) ∧ w3.cell? ⟨g, i * 4 + 3, none⟩ = some (.int .i64 (itm B (i + 1) m0).vy)) := hid fun i hi => by
    obtain ⟨a0, a1, a2, a3⟩ := HCS.out i hi
    exact ⟨(hc3 _ _ hgl).trans a0, (hc3 _ _ hgl).trans a1, (hc3 _ _ hgl).trans a2, (hc3 _ _ hgl).trans a3⟩
  have hgne : w.heap.size < g := by simp at hgb; omega
  go_wp2_with fail
  go_loopw [6] (fun s6 wr => ∃ (k : Nat) (m : Mo), s6 = .int .i64 k ∧ k ≤ n + 1 ∧ Hid (m = itm B k m0) ∧ w.heap.size + 1 < wr.heap.size ∧ g < wr.heap.size ∧ wr.cell? ⟨w.heap.size, 0, none⟩ = some (.int .i64 m.px) ∧ wr.cell? ⟨w.heap.size, 1, none⟩ = some (.int .i64 m.py) ∧ wr.cell? ⟨w.heap.size, 2, none⟩ = some (.int .i64 m.vx) ∧ wr.cell? ⟨w.heap.size, 3, none⟩ = some (.int .i64 m.vy) ∧ wr.frozen? ⟨w.heap.size, 0, none⟩ = false ∧ wr.frozen? ⟨w.heap.size, 1, none⟩ = false ∧ wr.frozen? ⟨w.heap.size, 2, none⟩ = false ∧ wr.frozen? ⟨w.heap.size, 3, none⟩ = false ∧ wr.cell? ⟨w.heap.size + 1, 0, none⟩ = some (.int .i64 S) ∧ wr.cell? ⟨w.heap.size + 1, 1, none⟩ = some (.int .i64 A) ∧ wr.cell? ⟨w.heap.size + 1, 2, none⟩ = some (.int .i64 B) ∧ wr.cell? ⟨w.heap.size + 1, 3, none⟩ = some (.int .i64 H) ∧ wr.cell? ⟨w.heap.size + 1, 4, none⟩ = some (.int .i64 M) ∧ Hid (∀ i, i < n + 1 → wr.cell? ⟨g, i * 4, none⟩ = some (.int .i64 (itm B (i + 1) m0).px) ∧ wr.cell? ⟨g, i * 4 + 1, none⟩ = some (.int .i64 (itm B (i + 1) m0).py) ∧ wr.cell? ⟨g, i * 4 + 2, none⟩ = some (.int .i64 (itm B (i + 1) m0).vx) ∧ wr.cell? ⟨g, i * 4 + 3, none⟩ = some (.int .i64 (itm B (i + 1) m0).vy)) ∧ Below w.heap.size w wr) (fun s6 _ => n + 1 - (intOf s6).toNat)
  case atStart =>
    exact ⟨0, m0, rfl, by omega, hid rfl, z3b, z3, (hc3 _ _ hz).trans ((hc _ _ (by simp <;> omega)).trans (by simp [go_sem])), (hc3 _ _ hz).trans ((hc _ _ (by simp <;> omega)).trans (by simp [go_sem])), (hc3 _ _ hz).trans ((hc _ _ (by simp <;> omega)).trans (by simp [go_sem])), (hc3 _ _ hz).trans ((hc _ _ (by simp <;> omega)).trans (by simp [go_sem])), (hf3 _ _ hz).trans ((hf _ _ (by simp <;> omega)).trans (by simp [go_sem])), (hf3 _ _ hz).trans ((hf _ _ (by simp <;> omega)).trans (by simp [go_sem])), (hf3 _ _ hz).trans ((hf _ _ (by simp <;> omega)).trans (by simp [go_sem])), (hf3 _ _ hz).trans ((hf _ _ (by simp <;> omega)).trans (by simp [go_sem])), (hc3 _ _ hz').trans ((hc _ _ (by simp <;> omega)).trans (by simp [go_sem])), (hc3 _ _ hz').trans ((hc _ _ (by simp <;> omega)).trans (by simp [go_sem])), (hc3 _ _ hz').trans ((hc _ _ (by simp <;> omega)).trans (by simp [go_sem])), (hc3 _ _ hz').trans ((hc _ _ (by simp <;> omega)).trans (by simp [go_sem])), (hc3 _ _ hz').trans ((hc _ _ (by simp <;> omega)).trans (by simp [go_sem])), HCS3, HB3⟩
  case round =>
    clear hb hc hf hz hz' hb3 hc3 hf3 hs3 z3 z3a z3b HB3 HCS3 HCS t2 t3 t3' hgl hgb hn0 hn1
    obtain ⟨k, m, rfl, hk, HM, hz, hgr, c0, c1, c2, c3, f0, f1, f2, f3, l0, l1, l2, l3, l4, HCS, hb⟩ := hrel
    by_cases hkT : k < n + 1
    · have hkI : (k : Int) < (n : Int) + 1 := by omega
      have hkI0 : (0 : Int) ≤ (k : Int) := by omega
      obtain ⟨x0, x1, x2, x3⟩ := HCS.out k hkT
      have hm : (itm B (k + 1) m0) = brk1 B m := by rw [HM.out]; rfl
      rw [hm] at x0 x1 x2 x3
      have hmk : m.ok S A B H M := by rw [HM.out]; exact itm_ok HK.out k
      have hnk := brk1_ok hmk
      have HBR := hid (fun w => brake_of m hmk w)
      have HVA := hid (fun w => rvalid_of (show vld (brk1 B m).px (brk1 B m).py (brk1 B m).vx (brk1 B m).vy S A B H M = true from hnk) w)
      have HLN := hid (fun w => length_mo (brk1 B m) hnk w)
      have HLM := hid (fun w => length_mo m hmk w)
      have hle := brk_len' hmk
      obtain ⟨y0', y1'⟩ := ok_len hmk
      obtain ⟨y2', y3'⟩ := ok_len hnk
      have HST : Hid (k < n → ¬ (brk1 B m).still) := hid (fun h => by rw [← hm]; exact (HSP.out (k + 1) (by omega)).2)
      have HNM : Hid (brk1 B m = itm B (k + 1) m0) := hid hm.symm
      clear hm hmk hnk
      generalize brk1 B m = nx at *
      have q1 : ∀ w, (binOp .neq 23 (pt nx.vx nx.vy) (pt nx.vx nx.vy)).run Try.prog w = .ok (.bool false) w := fun w => by rw [neq_pt]; simp
      go_upto_region 9 with fail
      have rm0 : ∀ (z : Later wr), z.val.cell? ⟨w.heap.size, 0, none⟩ = some (.int .i64 m.px) := fun z => (z.cell (by omega)).trans c0
      have rm1 : ∀ (z : Later wr), z.val.cell? ⟨w.heap.size, 1, none⟩ = some (.int .i64 m.py) := fun z => (z.cell (by omega)).trans c1
      have rm2 : ∀ (z : Later wr), z.val.cell? ⟨w.heap.size, 2, none⟩ = some (.int .i64 m.vx) := fun z => (z.cell (by omega)).trans c2
      have rm3 : ∀ (z : Later wr), z.val.cell? ⟨w.heap.size, 3, none⟩ = some (.int .i64 m.vy) := fun z => (z.cell (by omega)).trans c3
      have rl0 : ∀ (z : Later wr), z.val.cell? ⟨w.heap.size + 1, 0, none⟩ = some (.int .i64 S) := fun z => (z.cell (by omega)).trans l0
      have rl1 : ∀ (z : Later wr), z.val.cell? ⟨w.heap.size + 1, 1, none⟩ = some (.int .i64 A) := fun z => (z.cell (by omega)).trans l1
      have rl2 : ∀ (z : Later wr), z.val.cell? ⟨w.heap.size + 1, 2, none⟩ = some (.int .i64 B) := fun z => (z.cell (by omega)).trans l2
      have rl3 : ∀ (z : Later wr), z.val.cell? ⟨w.heap.size + 1, 3, none⟩ = some (.int .i64 H) := fun z => (z.cell (by omega)).trans l3
      have rl4 : ∀ (z : Later wr), z.val.cell? ⟨w.heap.size + 1, 4, none⟩ = some (.int .i64 M) := fun z => (z.cell (by omega)).trans l4
      have x3' : wr.cell? ⟨g, k * 4 + 2 + 1, none⟩ = some (.int .i64 nx.vy) := x3
      have rg0 : ∀ (z : Later wr), z.val.cell? ⟨g, k * 4, none⟩ = some (.int .i64 nx.px) := fun z => (z.cell hgr).trans x0
      have rg1 : ∀ (z : Later wr), z.val.cell? ⟨g, k * 4 + 1, none⟩ = some (.int .i64 nx.py) := fun z => (z.cell hgr).trans x1
      have rg2 : ∀ (z : Later wr), z.val.cell? ⟨g, k * 4 + 2, none⟩ = some (.int .i64 nx.vx) := fun z => (z.cell hgr).trans x2
      have rg3 : ∀ (z : Later wr), z.val.cell? ⟨g, k * 4 + 3, none⟩ = some (.int .i64 nx.vy) := fun z => (z.cell hgr).trans x3
      have rg4 : ∀ (z : Later wr), z.val.cell? ⟨g, k * 4 + 2 + 1, none⟩ = some (.int .i64 nx.vy) := fun z => (z.cell hgr).trans x3'
      have hff : ∀ (z : Later wr) (j : Nat), z.val.frozen? ⟨w.heap.size, j, none⟩ = wr.frozen? ⟨w.heap.size, j, none⟩ := fun z j => z.frz (by omega)
      have hmx : (m.len - B ≤ 0 ∧ nx.len ≤ 0) ∨ (0 < m.len - B ∧ nx.len ≤ m.len - B) := by omega
      clear c0 c1 c2 c3 l0 l1 l2 l3 l4 hle
      go_cut [86] (fun s wq => s = .bool false ∧ ∃ y0 : Later wr, wq = y0.val)
      case first =>
        rcases hmx with ⟨hm1, hm2⟩ | ⟨hm1, hm2⟩
        · have d0 : decide (0 < nx.len) = false := decide_eq_false (by omega)
          refine wp_region_later (w0 := wr) (Below.refl _ _) (by kernel_rfl) (by kernel_rfl) ?_
          repeat (go_big_quiet_step ((first
            | (go_at_call 18; with_reducible exact calls_later (HBR.out _))
            | (go_at_call 13; with_reducible exact calls_later (HVA.out _))
            | (go_at_call 21; with_reducible exact calls_later (HLN.out _))
            | (go_at_call 21; with_reducible exact calls_later (HLM.out _)))))
          refine wpQuiet_nil ?_
          intro _ hw'
          obtain ⟨y0, hw''⟩ := hw'
          subst hw''
          simp only [Exit.then]
          go_step
          go_meet
          case rel => exact ⟨rfl, y0, rfl⟩
        · have d0 : decide (m.len - B < nx.len) = false := decide_eq_false (by omega)
          refine wp_region_later (w0 := wr) (Below.refl _ _) (by kernel_rfl) (by kernel_rfl) ?_
          repeat (go_big_quiet_step ((first
            | (go_at_call 18; with_reducible exact calls_later (HBR.out _))
            | (go_at_call 13; with_reducible exact calls_later (HVA.out _))
            | (go_at_call 21; with_reducible exact calls_later (HLN.out _))
            | (go_at_call 21; with_reducible exact calls_later (HLM.out _)))))
          refine wpQuiet_nil ?_
          intro _ hw'
          obtain ⟨y0, hw''⟩ := hw'
          subst hw''
          simp only [Exit.then]
          go_step
          go_meet
          case rel => exact ⟨rfl, y0, rfl⟩
      case rest =>
        obtain ⟨rfl, y0, rfl⟩ := hcut
        have hy : w.heap.size + 1 < y0.val.heap.size := by have := y0.size; omega
        have hyg : g < y0.val.heap.size := by have := y0.size; omega
        clear q1 HBR HVA HLN HLM x0 x1 x2 x3 x3'
        by_cases hkn : k < n
        · have hknI : (k : Int) < (n : Int) := by omega
          have q2 : ∀ w, (binOp .eql 23 (pt nx.vx nx.vy) (pt 0 0)).run Try.prog w = .ok (.bool false) w := fun w => by
            have hs := HST.out hkn
            rw [eql_pt]
            by_cases h' : nx.vx = 0
            · rw [decide_eq_true h', decide_eq_false (fun h2 => hs ⟨h', h2⟩)]; rfl
            · rw [decide_eq_false h']; rfl
          go_wp2_with fail
          go_roundw
          case rel =>
            refine ⟨k + 1, nx, by go_num, by omega, HNM, by simpa [World.setCell] using hy, by simpa [World.setCell] using hyg, by go_simp, by go_simp, by go_simp, by go_simp, by go_simp, by go_simp, by go_simp, by go_simp, by go_simp, by go_simp, by go_simp, by go_simp, by go_simp, hid (fun i hi => ?_), ((((hb.trans (y0.ok.mono (by omega))).setCell (by simp) _).setCell (by simp) _).setCell (by simp) _).setCell (by simp) _⟩
            obtain ⟨a0, a1, a2, a3⟩ := HCS.out i hi
            have far : ∀ j, ((((y0.val.setCell ⟨w.heap.size, 0, none⟩ (.int .i64 nx.px)).setCell ⟨w.heap.size, 1, none⟩ (.int .i64 nx.py)).setCell ⟨w.heap.size, 2, none⟩ (.int .i64 nx.vx)).setCell ⟨w.heap.size, 3, none⟩ (.int .i64 nx.vy)).cell? ⟨g, j, none⟩ = wr.cell? ⟨g, j, none⟩ := fun j =>
              (World.cell?_of_block (by rw [Below.heap_setCell _ _ _ _ (by dsimp only; omega), Below.heap_setCell _ _ _ _ (by dsimp only; omega), Below.heap_setCell _ _ _ _ (by dsimp only; omega), Below.heap_setCell _ _ _ _ (by dsimp only; omega)])).trans (y0.cell hgr)
            exact ⟨(far _).trans a0, (far _).trans a1, (far _).trans a2, (far _).trans a3⟩
          case measure => simp [intOf]; omega
        · have hknI : (n : Int) ≤ (k : Int) := by omega
          go_wp2_with fail
          go_roundw
          case rel =>
            refine ⟨k + 1, nx, by go_num, by omega, HNM, by simpa [World.setCell] using hy, by simpa [World.setCell] using hyg, by go_simp, by go_simp, by go_simp, by go_simp, by go_simp, by go_simp, by go_simp, by go_simp, by go_simp, by go_simp, by go_simp, by go_simp, by go_simp, hid (fun i hi => ?_), ((((hb.trans (y0.ok.mono (by omega))).setCell (by simp) _).setCell (by simp) _).setCell (by simp) _).setCell (by simp) _⟩
            obtain ⟨a0, a1, a2, a3⟩ := HCS.out i hi
            have far : ∀ j, ((((y0.val.setCell ⟨w.heap.size, 0, none⟩ (.int .i64 nx.px)).setCell ⟨w.heap.size, 1, none⟩ (.int .i64 nx.py)).setCell ⟨w.heap.size, 2, none⟩ (.int .i64 nx.vx)).setCell ⟨w.heap.size, 3, none⟩ (.int .i64 nx.vy)).cell? ⟨g, j, none⟩ = wr.cell? ⟨g, j, none⟩ := fun j =>
              (World.cell?_of_block (by rw [Below.heap_setCell _ _ _ _ (by dsimp only; omega), Below.heap_setCell _ _ _ _ (by dsimp only; omega), Below.heap_setCell _ _ _ _ (by dsimp only; omega), Below.heap_setCell _ _ _ _ (by dsimp only; omega)])).trans (y0.cell hgr)
            exact ⟨(far _).trans a0, (far _).trans a1, (far _).trans a2, (far _).trans a3⟩
          case measure => simp [intOf]; omega
    · go_wp2_with (first | (go_at_call 14; refine (awake_any _).mono ?_; rintro e w5 ⟨rfl, hb5⟩))
      go_ret
      exact ⟨rfl, hb.trans (hb5.mono (by omega))⟩
end Go.Proofs.Ythfpdlkeagoamaa.motionStops
