/- The law BrakingTables returns true for every input; its arguments read afterwards as before. No condition. -/
import Derived.Test.YtanaficinidffaaWe
import Derived.Test.YtanaficinidffaaFrame
import Derived.Test.YtanaficinidffaaRows
namespace Go.Proofs.Ytanaficinidffaa.brakingTables
open Go.ChangeShapes Go.WideShapes Go.ChangeAt Go.RowKit

set_option linter.unusedVariables false

set_option maxHeartbeats 2000000 in
theorem walk_no (s a b h m : Int) (e1 : vld s a b h m = false) (w : World) : Calls Try.prog 9 #[lim s a b h m] w fun e w' => e = .returned (.bool true) ∧ Below w.heap.size w w' := by
  go_enter Try.func9, Try.ntmps9
  go_wp2_with (first
    | (go_at_call 24; refine (table_no _ _ _ _ _ e1 _).mono ?_; rintro e w1 ⟨rfl, hb⟩; obtain ⟨hc, hf⟩ := bcell hb)
    | (go_at_call 13; refine (rvalid_any _ _ _ _ _ _).mono ?_; rintro e w2 ⟨rfl, hb2⟩; replace hb := below_then hb hb2; clear hb2)
    | (go_at_call 12; refine (awake_any _).mono ?_; rintro e w2 ⟨rfl, hb2⟩; replace hb := below_then hb hb2; clear hb2))
  go_ret
  exact ⟨rfl, below_box hb⟩

theorem facts (n : Nat) (a b h m : Int) (e1 : vld n a b h m = true) (k : Nat) (hk : k ≤ n) : 0 ≤ needF k n a b h m ∧ needF k n a b h m ≤ 34607104 ∧ (1 ≤ k → 0 ≤ needF ((k - 1 : Nat) : Int) n a b h m ∧ needF ((k - 1 : Nat) : Int) n a b h m < needF k n a b h m) := by
  obtain ⟨v1, v2, v3, v4, v5⟩ := vld_iff.1 e1
  have i1 := inB_true (n := (k : Int)) (low := 0) (high := 4096) (by omega) (by omega)
  have i2 := inB_true (n := ((k - 1 : Nat) : Int)) (low := 0) (high := 4096) (by omega) (by omega)
  have b1 := need_bounds (v := (k : Int)) (b := b) (h := h) (m := m) (by omega) (by omega) v3.1 v4.1 v4.2 v5.1 v5.2
  have b2 := need_bounds (v := ((k - 1 : Nat) : Int)) (b := b) (h := h) (m := m) (by omega) (by omega) v3.1 v4.1 v4.2 v5.1 v5.2
  simp only [needF, i1, i2, e1, Bool.and_self, if_true]
  refine ⟨b1.1, b1.2, fun hk1 => ⟨b2.1, ?_⟩⟩
  have := need_strict (v := (k : Int)) (b := b) (h := h) (m := m) (by omega) v3.1 v4.1
  rw [show ((k - 1 : Nat) : Int) = (k : Int) - 1 from by omega]
  exact this
theorem fact0 (n : Nat) (a b h m : Int) (e1 : vld n a b h m = true) : needF ((0 : Nat) : Int) n a b h m = h + m := by
  obtain ⟨v1, v2, v3, v4, v5⟩ := vld_iff.1 e1
  simp only [needF, e1, show inB ((0 : Nat) : Int) 0 4096 = true from rfl, Bool.and_self, if_true]
  exact need_zero v3.1

set_option maxHeartbeats 4000000 in
theorem walk_yes (n : Nat) (a b h m : Int) (e1 : vld n a b h m = true) (w : World) : Calls Try.prog 9 #[lim n a b h m] w fun e w' => e = .returned (.bool true) ∧ Below w.heap.size w w' := by
  obtain ⟨⟨s1, s2⟩, _, _, ⟨p1, p2⟩, ⟨m1, m2⟩⟩ := vld_iff.1 e1
  go_enter Try.func9, Try.ntmps9
  go_wp2_with (first
    | (go_at_call 24; refine (table_yes _ _ _ _ _ e1 _).mono ?_; rintro e w1 ⟨v, rfl, hown, hb⟩; rw [Int.toNat_natCast] at hown; obtain ⟨g, cap, rfl, hg1, hg2⟩ := hown.form (by omega); obtain ⟨hc, hf⟩ := bcell hb)
    | (go_at_call 13; refine (rvalid_any _ _ _ _ _ _).mono ?_; rintro e w2 ⟨rfl, hb2⟩; have hown2 := own_below hown hb2; have hsz := hb2.size; replace hb := below_then hb hb2; clear hb2 hown hc hf; obtain ⟨hc, hf⟩ := bcell hb))
  have hcell : ∀ j, j < n + 1 → w2.cell? ⟨g, j, none⟩ = some (.int .i64 (needF (j : Int) n a b h m)) := fun j hj => by
    rw [hown2.cellAt j (by omega)]; exact tab_at _ _ _ _ _ _ _ hj
  have HC := hid hcell
  have hg : g < w2.heap.size := by omega
  have hbox : w.heap.size < w2.heap.size := by have := hb.size; simp at this; omega
  have HBX := hid hc
  clear hown2 hcell hc hf hsz hg1 hg2
  go_loopw [4] (fun i wr => ∃ k : Nat, k ≤ n + 1 ∧ i = .int .i64 k ∧ Below w2.heap.size w2 wr) (fun i _ => n + 1 - (intOf i).toNat)
  case atStart => exact ⟨0, by omega, rfl, Below.refl _ _⟩
  case round =>
    obtain ⟨k, hk, rfl, hbr⟩ := hrel
    by_cases hlt : k < n + 1
    · obtain ⟨f1, f2, f3⟩ := facts n a b h m e1 k (by omega)
      have hl : ∀ (x : Later w2) (o : Nat), x.val.cell? ⟨w.heap.size, o, none⟩ = (w.alloc (.cells #[.int .i64 (n : Int), .int .i64 a, .int .i64 b, .int .i64 h, .int .i64 m] 23)).cell? ⟨w.heap.size, o, none⟩ := fun x o => (x.cell hbox).trans (HBX.out _ _ (by simp))
      have hk1 : ∀ (x : Later w2), x.val.cell? ⟨g, k, none⟩ = some (.int .i64 (needF (k : Int) n a b h m)) := fun x => (x.cell hg).trans (HC.out k hlt)
      have hki : (0 : Int) ≤ (k : Int) := by omega
      have hkn : (k : Int) < (n : Int) + 1 := by omega
      by_cases hk0 : 1 ≤ k
      · obtain ⟨f4, f5⟩ := f3 hk0
        have hkp : 0 < k := hk0
        have hkq : (0 : Int) < (k : Int) := by omega
        have hk2 : ∀ (x : Later w2), x.val.cell? ⟨g, k - 1, none⟩ = some (.int .i64 (needF ((k - 1 : Nat) : Int) n a b h m)) := fun x => (x.cell hg).trans (HC.out (k - 1) (by omega))
        generalize needF ((k - 1 : Nat) : Int) n a b h m = M at f4 f5 hk2
        clear f3
        go_wp2_with fail
        refine wp_region_later hbr (by kernel_rfl) (by kernel_rfl) ?_
        repeat (go_big_quiet_step ((go_at_call 14; exact calls_later (need_any _ _ _ _ _ _ _))))
        refine wpQuiet_nil ?_
        intro _ hw'
        obtain ⟨y, hw''⟩ := hw'
        subst hw''
        have hby := y.ok
        clear hl hk1 hk2
        go_wp2
        go_roundw
        case rel => exact ⟨k + 1, by omega, by go_num, hby⟩
        case measure => simp [intOf]; omega
      · obtain rfl : k = 0 := by omega
        clear f3
        go_wp2_with fail
        refine wp_region_later hbr (by kernel_rfl) (by kernel_rfl) ?_
        repeat (go_big_quiet_step ((go_at_call 14; exact calls_later (need_any _ _ _ _ _ _ _))))
        refine wpQuiet_nil ?_
        intro _ hw'
        obtain ⟨y, hw''⟩ := hw'
        subst hw''
        have hby := y.ok
        clear hl hk1
        go_wp2
        go_roundw
        case rel => exact ⟨1, by omega, by go_num, hby⟩
        case measure => simp [intOf]
    · have hl : ∀ (x : Later w2) (o : Nat), x.val.cell? ⟨w.heap.size, o, none⟩ = (w.alloc (.cells #[.int .i64 (n : Int), .int .i64 a, .int .i64 b, .int .i64 h, .int .i64 m] 23)).cell? ⟨w.heap.size, o, none⟩ := fun x o => (x.cell hbox).trans (HBX.out _ _ (by simp))
      have hk1 : ∀ (x : Later w2), x.val.cell? ⟨g, 0, none⟩ = some (.int .i64 (h + m)) := fun x => (x.cell hg).trans ((HC.out 0 (by omega)).trans (by rw [fact0 n a b h m e1]))
      go_wp2_with fail
      refine wp_region_later hbr (by kernel_rfl) (by kernel_rfl) ?_
      repeat (go_big_quiet_step ((go_at_call 12; exact calls_later (awake_any _))))
      refine wpQuiet_nil ?_
      intro _ hw'
      obtain ⟨y, hw''⟩ := hw'
      subst hw''
      have hby := below_box (below_then hb y.ok)
      clear hl hk1
      go_wp2
      go_ret
      exact ⟨rfl, hby⟩
theorem walk (a00 a01 a02 a03 a04 : Int) (w00 : (Lit.int .i64 a00).wf = true) (w01 : (Lit.int .i64 a01).wf = true) (w02 : (Lit.int .i64 a02).wf = true) (w03 : (Lit.int .i64 a03).wf = true) (w04 : (Lit.int .i64 a04).wf = true) (w : World) : Calls Try.prog 9 #[lim a00 a01 a02 a03 a04] w fun e w' => e = .returned (.bool true) ∧ Below w.heap.size w w' := by
  cases e1 : vld a00 a01 a02 a03 a04
  · exact walk_no _ _ _ _ _ e1 w
  · obtain ⟨v1, _⟩ := vld_iff.1 e1
    obtain ⟨n, rfl⟩ : ∃ n : Nat, a00 = n := ⟨a00.toNat, by omega⟩
    exact walk_yes _ _ _ _ _ e1 w

theorem own : ownKnob Try.prog.godebug = none := by kernel_rfl
set_option maxRecDepth 100000 in
theorem lifted (os : Os) (started : os.Started) (H : Type) (enc : TypeId × Value → H) :
    ReturnsInHanded {} Try.checked os 9 .any (Rows.brakingTablesSpec.pre6 enc Try.prog Try.f9 Rows.brakingTablesRow.domain false) (Rows.brakingTablesSpec.post enc Try.prog Try.f9 false true false false) := by
  refine returnsInHanded_of_change (C := Try.checked) own started (by kernel_rfl) Try.func9
    (ChangeSpec.witness6 (enc := enc) (C := Try.checked) false ⟨#[], #[.agg #[.int .i64 0, .int .i64 0, .int .i64 0, .int .i64 0, .int .i64 0]], []⟩ 8 (by kernel_rfl) (by kernel_rfl) (by kernel_rfl) (by kernel_rfl)) ?_
  intro W base args ds gs before hval0 hW _ _
  have hval : ∀ (j : Nat) t v, Try.f9.params[j]? = some t → args[j]? = some v → Value.okWide Try.prog W .any base t v := hval0
  have hW' := hW
  obtain ⟨p, q, hA0, hV, rfl, hfz, hnd⟩ := hW
  have hA : DataW.TrodAll enc Try.prog W 0 (fun _ => true) true Try.f9.params.toList args.toList ds p := hA0
  rw [Try.params9] at hA hval
  obtain ⟨v0, vs0, d0, ds0, p0, q0, hargs, rfl, rfl, h0, r0⟩ := trodAll_cons hA
  obtain ⟨rfl, rfl, rfl⟩ := trodAll_nil r0
  obtain rfl : args = #[v0] := by cases args; simp_all
  obtain ⟨rfl, rfl⟩ := trodVars_none hV
  obtain ⟨a00, a01, a02, a03, a04, rfl, w00, w01, w02, w03, w04⟩ := open_ints5 Try.underlying23 (by kernel_rfl) (by kernel_rfl) Try.underlying3 rfl rfl rfl rfl rfl (hval 0 23 v0 rfl rfl) h0
  refine (walk a00 a01 a02 a03 a04 w00 w01 w02 w03 w04 W).mono fun e W' ⟨he, hb⟩ => ?_
  subst he
  exact ⟨_, rfl, law_post (by kernel_rfl) (by kernel_rfl) rfl (show Try.f9.resultTypes = #[4] by kernel_rfl) Try.underlying4 hW' rfl rfl rfl hb⟩
theorem over : Rows.brakingTablesRow.holds Try.pinned (OpenSpec.ofChange Rows.brakingTablesSpec) :=
  OpenClaim.holds_of_wide 9 Try.f9 rfl rfl rfl rfl rfl rfl rfl ⟨rfl, rfl, rfl, rfl, rfl⟩ rfl rfl rfl rfl rfl (by kernel_rfl) Try.func9 (by kernel_rfl)
    (of_decide_eq_true (by kernel_rfl)) (by unfold Func.isWrapper; first | (rw [if_pos (by decide +kernel)]; kernel_rfl) | (rw [if_neg (by decide +kernel)]; exact ⟨rfl, rfl⟩))
    (fun os started H enc _ => lifted os started H enc)
/-- THE STATEMENT. -/
theorem proved : Rows.BrakingTablesSaid := over
#print axioms proved
end Go.Proofs.Ytanaficinidffaa.brakingTables
