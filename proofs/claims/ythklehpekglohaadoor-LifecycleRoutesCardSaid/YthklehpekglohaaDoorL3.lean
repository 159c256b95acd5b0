/- The law LifecycleRoutes returns true for every input; its arguments read afterwards as before. No condition. -/
import Derived.Test.YthklehpekglohaaDoorL3w
import Derived.Test.YthklehpekglohaaDoorFrameI
import Derived.Test.YthklehpekglohaaDoorLd
import Derived.Test.YthklehpekglohaaDoorFrame
import Derived.Test.YthklehpekglohaaDoorRows
import Derived.Test.YthklehpekglohaaDoorCards
import Derived.Test.YthklehpekglohaaDoorTie
import Derived.SevenTiedAt
namespace Go.Proofs.YthklehpekglohaaDoor.lifecycleRoutes
open Go.ChangeShapes Go.WideShapes Go.ChangeAt Go.RowKit

set_option linter.unusedVariables false
set_option linter.unusedSimpArgs false
theorem walk (fr : Int) (ws : (Lit.int .i64 fr).wf = true) (tg : Int) (wt : (Lit.int .i64 tg).wf = true) (v : Value) (o : List Int) (w : World) (hR : Rules w) (hv : RdI w v o) : Calls Tryd.prog 3 #[.int .i64 fr, .int .i64 tg, v] w fun e w' => e = .returned (.bool true) ∧ Below w.heap.size w w' := routes_walk fr tg v o w hR hv

set_option maxRecDepth 100000 in
theorem lifted (os : Os) (started : os.Started) (H : Type) (enc : TypeId × Value → H) :
    ReturnsInHanded {} Tryd.checked os 3 .any (fun w args => (Rows.lifecycleRoutesSpec.pre enc Tryd.prog Tryd.f3 [] false w args ∧ laidMetH Tryd.prog laid1 w) ∧ sizedMet enc Tryd.prog Tryd.f3 (OpenSpec.ofChange Rows.lifecycleRoutesSpec) false w args)
      (Rows.lifecycleRoutesSpec.post enc Tryd.prog Tryd.f3 false true false false) := by
  refine returnsInHanded_of_change_and (C := Tryd.checked) (X := fun w _ => laidMetH Tryd.prog laid1 w) (fun _ _ _ hh h => h.of_heap hh) own started (by kernel_rfl) Tryd.func3
    (ChangeSpec.witness_shaped (enc := enc) (C := Tryd.checked) (os := os) (X := fun w _ => laidMetH Tryd.prog laid1 w) false (World.doorLaid Tryd.prog 400 os) #[.int .i64 0, .int .i64 0, .slice none 0 0] 8 rfl (World.shaped_of_RefB (by kernel_rfl) (by kernel_rfl)) (by kernel_rfl) (by kernel_rfl) (by kernel_rfl) (door_met os _)) ?_
  intro W base args ds gs before hval0 hW _ _ hL _
  have hval : ∀ (j : Nat) t v, Tryd.f3.params[j]? = some t → args[j]? = some v → Value.okWide Tryd.prog W .any base t v := hval0
  have hW' := hW
  obtain ⟨p, q, hA0, hV, rfl, hfz, hnd⟩ := hW
  have hA : DataW.TrodAll enc Tryd.prog W 0 (fun _ => true) true Tryd.f3.params.toList args.toList ds p := hA0
  rw [Tryd.params3] at hA hval
  obtain ⟨v0, vs0, d0, ds0, p0, q0, hargs, rfl, rfl, h0, r0⟩ := trodAll_cons hA
  obtain ⟨v1, vs1, d1, ds1, p1, q1, rfl, rfl, rfl, h1, r1⟩ := trodAll_cons r0
  obtain ⟨v2, vs2, d2, ds2, p2, q2, rfl, rfl, rfl, h2, r2⟩ := trodAll_cons r1
  obtain ⟨rfl, rfl, rfl⟩ := trodAll_nil r2
  obtain rfl : args = #[v0, v1, v2] := by cases args; simp_all
  obtain ⟨rfl, rfl⟩ := trodVars_none hV
  obtain ⟨a0, rfl, rfl, rfl, w0⟩ := open_int Tryd.underlying3 (hval 0 3 v0 rfl rfl) h0
  obtain ⟨a1, rfl, rfl, rfl, w1⟩ := open_int Tryd.underlying3 (hval 1 3 v1 rfl rfl) h1
  obtain ⟨l2, k2⟩ := open_rdi Tryd.underlying22 (by kernel_rfl) Tryd.underlying3 (hval 2 22 v2 rfl rfl) h2
  refine (walk a0 w0 a1 w1 v2 l2 W (rules_of_laid hL) k2).mono fun e W' ⟨he, hb⟩ => ?_
  subst he
  exact ⟨_, rfl, law_post (by kernel_rfl) (by kernel_rfl) rfl (show Tryd.f3.resultTypes = #[4] by kernel_rfl) Tryd.underlying4 hW' rfl rfl rfl hb⟩
theorem over : Rows.lifecycleRoutesRow.holds Tryd.pinned (OpenSpec.ofChange Rows.lifecycleRoutesSpec) :=
  OpenClaim.holds_of_wide 3 Tryd.f3 rfl rfl rfl rfl rfl rfl rfl ⟨rfl, rfl, rfl, rfl, rfl⟩ rfl rfl rfl rfl rfl (by kernel_rfl) Tryd.func3 (by kernel_rfl)
    (of_decide_eq_true (by kernel_rfl)) (by unfold Func.isWrapper; first | (rw [if_pos (by decide +kernel)]; kernel_rfl) | (rw [if_neg (by decide +kernel)]; exact ⟨rfl, rfl⟩))
    (fun os started H enc _ => lifted os started H enc)
/-- THE STATEMENT: the tied card. -/
theorem proved : Rows.LifecycleRoutesCardSaid :=
  Claim7.holds_tied_plain_at .later [] [.data] true (true, "5b4ed54254e8c0121a764631ed731c39c22aaa096f12a4b0f471701693706c1e") false
    over (fun _ h => by cases h) (by kernel_rfl) (fun _ h => by cases h) lifecycleRoutes_row_tie rfl ⟨rfl, rfl⟩ (by kernel_rfl) rfl
    (fun f fn hf hfn => by
      obtain rfl : f = 3 := Option.some.inj ((show Tryd.prog.funcNamed "robotics/roboticslaw30.LifecycleRoutes" = some 3 by kernel_rfl).symm.trans hf) |>.symm
      obtain rfl : fn = Tryd.f3 := (Option.some.inj (Tryd.func3.symm.trans hfn)).symm
      exact ⟨by kernel_rfl, fun j t ht => by
        rw [Tryd.params3] at ht
        have hm : t ∈ [3, 3, 22] := by simpa using Array.mem_of_getElem? ht
        have hall : ([3, 3, 22].all fun u => !Tryd.prog.wantsStandIn u) = true := by kernel_rfl
        exact (show Tryd.prog.wantsStandIn t = false by simpa using List.all_eq_true.1 hall t hm)⟩)
    (by kernel_rfl)
#print axioms proved
end Go.Proofs.YthklehpekglohaaDoor.lifecycleRoutes
