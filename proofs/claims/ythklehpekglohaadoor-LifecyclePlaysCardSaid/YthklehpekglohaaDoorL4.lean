/- The law LifecyclePlays returns true for every input; its arguments read afterwards as before. No condition. -/
import Derived.Test.YthklehpekglohaaDoorL4w
import Derived.Test.YthklehpekglohaaDoorFrameO
import Derived.Test.YthklehpekglohaaDoorLd
import Derived.Test.YthklehpekglohaaDoorFrame
import Derived.Test.YthklehpekglohaaDoorRows
import Derived.Test.YthklehpekglohaaDoorCards
import Derived.Test.YthklehpekglohaaDoorTie
import Derived.SevenTiedAt
namespace Go.Proofs.YthklehpekglohaaDoor.lifecyclePlays
open Go.ChangeShapes Go.WideShapes Go.ChangeAt Go.RowKit

set_option linter.unusedVariables false
set_option linter.unusedSimpArgs false
theorem walk (a : Option Addr) (len cap : Nat) (X : Nat → Int) (Y : Nat → Bool) (hl : len ≤ maxLen) (w : World) (hR : Rules w)
    (ha : 0 < len → ∃ b off, a = some ⟨b, off, none⟩ ∧ b < w.heap.size ∧ ∀ i, i < len → w.cell? ⟨b, off + i * 2, none⟩ = some (.int .i64 (X i)) ∧ w.cell? ⟨b, off + (i * 2 + 1), none⟩ = some (.bool (Y i)) ∧ (Lit.int .i64 (X i)).wf = true) :
    Calls Tryd.prog 4 #[.slice a len cap] w fun e w' => e = .returned (.bool true) ∧ Below w.heap.size w w' :=
  plays_walk a len cap X Y hl w hR (hid fun hp => by
    obtain ⟨b, off, h1, h2, h3⟩ := ha hp
    exact ⟨b, off, h1, h2, fun i hi => ⟨(h3 i hi).1, (h3 i hi).2.1⟩⟩)

set_option maxRecDepth 100000 in
theorem lifted (os : Os) (started : os.Started) (H : Type) (enc : TypeId × Value → H) :
    ReturnsInHanded {} Tryd.checked os 4 .any (fun w args => (Rows.lifecyclePlaysSpec.pre enc Tryd.prog Tryd.f4 [] false w args ∧ laidMetH Tryd.prog laid1 w) ∧ sizedMet enc Tryd.prog Tryd.f4 (OpenSpec.ofChange Rows.lifecyclePlaysSpec) false w args)
      (Rows.lifecyclePlaysSpec.post enc Tryd.prog Tryd.f4 false true false false) := by
  refine returnsInHanded_of_change_and (C := Tryd.checked) (X := fun w _ => laidMetH Tryd.prog laid1 w) (fun _ _ _ hh h => h.of_heap hh) own started (by kernel_rfl) Tryd.func4
    (ChangeSpec.witness_shaped (enc := enc) (C := Tryd.checked) (os := os) (X := fun w _ => laidMetH Tryd.prog laid1 w) false (World.doorLaid Tryd.prog 400 os) #[.slice none 0 0] 8 rfl (World.shaped_of_RefB (by kernel_rfl) (by kernel_rfl)) (by kernel_rfl) (by kernel_rfl) (by kernel_rfl) (door_met os _)) ?_
  intro W base args ds gs before hval0 hW _ _ hL _
  have hval : ∀ (j : Nat) t v, Tryd.f4.params[j]? = some t → args[j]? = some v → Value.okWide Tryd.prog W .any base t v := hval0
  have hW' := hW
  obtain ⟨p, q, hA0, hV, rfl, hfz, hnd⟩ := hW
  have hA : DataW.TrodAll enc Tryd.prog W 0 (fun _ => true) true Tryd.f4.params.toList args.toList ds p := hA0
  rw [Tryd.params4] at hA hval
  obtain ⟨v0, vs0, d0, ds0, p0, q0, hargs, rfl, rfl, h0, r0⟩ := trodAll_cons hA
  obtain ⟨rfl, rfl, rfl⟩ := trodAll_nil r0
  obtain rfl : args = #[v0] := by cases args; simp_all
  obtain ⟨rfl, rfl⟩ := trodVars_none hV
  obtain ⟨a0, len0, cap0, X0, Y0, rfl, q00, q01, q02⟩ := open_ops Tryd.underlying31 Tryd.underlying38 (by kernel_rfl) (by kernel_rfl) Tryd.underlying3 rfl Tryd.underlying4 rfl (hval 0 31 v0 rfl rfl) h0
  refine (walk a0 len0 cap0 X0 Y0 q00 W (rules_of_laid hL) q02).mono fun e W' ⟨he, hb⟩ => ?_
  subst he
  exact ⟨_, rfl, law_post (by kernel_rfl) (by kernel_rfl) rfl (show Tryd.f4.resultTypes = #[4] by kernel_rfl) Tryd.underlying4 hW' rfl rfl rfl hb⟩
theorem over : Rows.lifecyclePlaysRow.holds Tryd.pinned (OpenSpec.ofChange Rows.lifecyclePlaysSpec) :=
  OpenClaim.holds_of_wide 4 Tryd.f4 rfl rfl rfl rfl rfl rfl rfl ⟨rfl, rfl, rfl, rfl, rfl⟩ rfl rfl rfl rfl rfl (by kernel_rfl) Tryd.func4 (by kernel_rfl)
    (of_decide_eq_true (by kernel_rfl)) (by unfold Func.isWrapper; first | (rw [if_pos (by decide +kernel)]; kernel_rfl) | (rw [if_neg (by decide +kernel)]; exact ⟨rfl, rfl⟩))
    (fun os started H enc _ => lifted os started H enc)
/-- THE STATEMENT: the tied card. -/
theorem proved : Rows.LifecyclePlaysCardSaid :=
  Claim7.holds_tied_plain_at .later [] [.data] true (true, "5b4ed54254e8c0121a764631ed731c39c22aaa096f12a4b0f471701693706c1e") false
    over (fun _ h => by cases h) (by kernel_rfl) (fun _ h => by cases h) lifecyclePlays_row_tie rfl ⟨rfl, rfl⟩ (by kernel_rfl) rfl
    (fun f fn hf hfn => by
      obtain rfl : f = 4 := Option.some.inj ((show Tryd.prog.funcNamed "robotics/roboticslaw30.LifecyclePlays" = some 4 by kernel_rfl).symm.trans hf) |>.symm
      obtain rfl : fn = Tryd.f4 := (Option.some.inj (Tryd.func4.symm.trans hfn)).symm
      exact ⟨by kernel_rfl, fun j t ht => by
        rw [Tryd.params4] at ht
        have hm : t ∈ [31] := by simpa using Array.mem_of_getElem? ht
        have hall : ([31].all fun u => !Tryd.prog.wantsStandIn u) = true := by kernel_rfl
        exact (show Tryd.prog.wantsStandIn t = false by simpa using List.all_eq_true.1 hall t hm)⟩)
    (by kernel_rfl)
#print axioms proved
end Go.Proofs.YthklehpekglohaaDoor.lifecyclePlays
