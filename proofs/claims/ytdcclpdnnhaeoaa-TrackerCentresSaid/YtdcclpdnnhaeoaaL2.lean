/- The law TrackerCentres returns true for every input; its arguments read afterwards as before. No condition. -/
import Derived.Test.YtdcclpdnnhaeoaaWl
import Derived.Test.YtdcclpdnnhaeoaaFrame3
import Derived.Test.YtdcclpdnnhaeoaaRows
namespace Go.Proofs.Ytdcclpdnnhaeoaa.trackerCentres
open Go.ChangeShapes Go.WideShapes Go.ChangeAt Go.RowKit

set_option linter.unusedVariables false
set_option maxHeartbeats 2000000 in
theorem long (a : Option Addr) (len cap : Nat) (size : Int) (hlen : 60 < len) (w : World) : Calls Try.prog 4 #[.slice a len cap, .int .i64 size] w fun e w' => e = .returned (.bool true) ∧ Below w.heap.size w w' := by
  have h1 : 60 < (len : Int) := by omega
  go_enter Try.func4, Try.ntmps4
  go_wp2_with (first | (go_at_call 7; refine (awake_any _).mono ?_; rintro e w5 ⟨rfl, hb5⟩))
  go_ret
  exact ⟨rfl, hb5⟩
set_option maxHeartbeats 4000000 in
theorem core (a : Option Addr) (len cap : Nat) (X Y : Nat → Int) (size : Int) (hlen : len ≤ 60) (w : World) (ha : Hid (Wants w a len X Y)) : Calls Try.prog 4 #[.slice a len cap, .int .i64 size] w fun e w' => e = .returned (.bool true) ∧ Below w.heap.size w w' := by
  have h1 : (len : Int) ≤ 60 := by omega
  have HW := hid (fun w h => waypoints_any a len cap X Y size hlen w h)
  go_enter Try.func4, Try.ntmps4
  go_wp2_with (first | (go_at_call 11; (with_reducible refine (HW.out _ ha).mono ?_); rintro e w2 ⟨v, rfl, ⟨a2, cap2, rfl, hrd⟩, hb2⟩; have HR := hid hrd; clear hrd; have hWa : Hid (Wants w2 a len X Y) := hid (wants_below ha.out hb2)))
  go_loopw [6] (fun s6 wr => ∃ k : Nat, s6 = .int .i64 k ∧ k ≤ len ∧ Below w2.heap.size w2 wr) (fun s6 _ => len - (intOf s6).toNat)
  case atStart => exact ⟨0, rfl, Nat.zero_le _, Below.refl _ _⟩
  case round =>
    obtain ⟨k, rfl, hk, hb⟩ := hrel
    by_cases hkT : k < len
    · obtain ⟨b, off, rfl, hbw, hcell⟩ := hWa.out (by omega)
      obtain ⟨x0, x1⟩ := hcell k hkT
      clear hcell
      obtain ⟨g, rfl, hg, hgc⟩ := HR.out (by omega)
      obtain ⟨y0, y1⟩ := hgc k hkT
      clear hgc
      have hkI : (k : Int) < (len : Int) := by omega
      have hkI0 : (0 : Int) ≤ (k : Int) := by omega
      have HB := hid (fun w => center_any (X k) (Y k) size w)
      generalize ctrX (X k) (Y k) size = CX at *
      generalize ctrY (X k) (Y k) size = CY at *
      have hs := hb.size
      have rx0 : ∀ (z : Later wr), z.val.cell? ⟨b, off + k * 2, none⟩ = some (.int .i64 (X k)) := fun z => (z.cell (by omega)).trans ((hb.cell hbw).trans x0)
      have rx1 : ∀ (z : Later wr), z.val.cell? ⟨b, off + k * 2 + 1, none⟩ = some (.int .i64 (Y k)) := fun z => (z.cell (by omega)).trans ((hb.cell hbw).trans x1)
      have ry0 : ∀ (z : Later wr), z.val.cell? ⟨g, k * 2, none⟩ = some (.int .i64 CX) := fun z => (z.cell (by omega)).trans ((hb.cell hg).trans y0)
      have ry1 : ∀ (z : Later wr), z.val.cell? ⟨g, k * 2 + 1, none⟩ = some (.int .i64 CY) := fun z => (z.cell (by omega)).trans ((hb.cell hg).trans y1)
      have q1 : ∀ w, (binOp .neq 34 (pt CX CY) (pt CX CY)).run Try.prog w = .ok (.bool false) w := fun w => by rw [neq_pt]; simp
      clear x0 x1 y0 y1
      go_wp2_with fail
      refine wp_region_later (w0 := wr) (Below.refl _ _) (by kernel_rfl) (by kernel_rfl) ?_
      repeat (go_big_quiet_step ((go_at_call 12; with_reducible exact calls_later (HB.out _))))
      refine wpQuiet_nil ?_
      intro _ hw'
      obtain ⟨z0, hw''⟩ := hw'
      subst hw''
      go_wp2_with fail
      go_roundw
      case rel => exact ⟨k + 1, by go_num, by omega, hb.trans (z0.ok.mono hs)⟩
      case measure => simp [intOf]; omega
    · obtain rfl : k = len := by omega
      go_wp2_with (first | (go_at_call 7; refine (awake_any _).mono ?_; rintro e w5 ⟨rfl, hb5⟩))
      go_ret
      exact ⟨rfl, (hb2.trans (hb.mono hb2.size)).trans (hb5.mono (Nat.le_trans hb2.size hb.size))⟩
theorem walk (a : Option Addr) (len cap : Nat) (X Y : Nat → Int) (hl : len ≤ maxLen) (hn : a = none → len = 0) (size : Int) (hs : (Lit.int .i64 size).wf = true) (w : World)
    (ha : 0 < len → ∃ b off, a = some ⟨b, off, none⟩ ∧ b < w.heap.size ∧ ∀ i, i < len → w.cell? ⟨b, off + i * 2, none⟩ = some (.int .i64 (X i)) ∧ w.cell? ⟨b, off + (i * 2 + 1), none⟩ = some (.int .i64 (Y i)) ∧ (Lit.int .i64 (X i)).wf = true ∧ (Lit.int .i64 (Y i)).wf = true) :
    Calls Try.prog 4 #[.slice a len cap, .int .i64 size] w fun e w' => e = .returned (.bool true) ∧ Below w.heap.size w w' := by
  rcases Nat.lt_or_ge 60 len with h | h
  · exact long a len cap size h w
  · exact core a len cap X Y size h w (hid fun hp => by
        obtain ⟨b, off, h1, h2, h3⟩ := ha hp
        exact ⟨b, off, h1, h2, fun i hi => ⟨(h3 i hi).1, (h3 i hi).2.1⟩⟩)

theorem own : ownKnob Try.prog.godebug = none := by kernel_rfl
set_option maxRecDepth 100000 in
theorem lifted (os : Os) (started : os.Started) (H : Type) (enc : TypeId × Value → H) :
    ReturnsInHanded {} Try.checked os 4 .any (Rows.trackerCentresSpec.pre6 enc Try.prog Try.f4 Rows.trackerCentresRow.domain false) (Rows.trackerCentresSpec.post enc Try.prog Try.f4 false true false false) := by
  refine returnsInHanded_of_change (C := Try.checked) own started (by kernel_rfl) Try.func4
    (ChangeSpec.witness6 (enc := enc) (C := Try.checked) false ⟨#[], #[.slice none 0 0, .int .i64 0], []⟩ 8 (by kernel_rfl) (by kernel_rfl) (by kernel_rfl) (by kernel_rfl)) ?_
  intro W base args ds gs before hval0 hW _ _
  have hval : ∀ (j : Nat) t v, Try.f4.params[j]? = some t → args[j]? = some v → Value.okWide Try.prog W .any base t v := hval0
  have hW' := hW
  obtain ⟨p, q, hA0, hV, rfl, hfz, hnd⟩ := hW
  have hA : DataW.TrodAll enc Try.prog W 0 (fun _ => true) true Try.f4.params.toList args.toList ds p := hA0
  rw [Try.params4] at hA hval
  obtain ⟨v0, vs0, d0, ds0, p0, q0, hargs, rfl, rfl, h0, r0⟩ := trodAll_cons hA
  obtain ⟨v1, vs1, d1, ds1, p1, q1, rfl, rfl, rfl, h1, r1⟩ := trodAll_cons r0
  obtain ⟨rfl, rfl, rfl⟩ := trodAll_nil r1
  obtain rfl : args = #[v0, v1] := by cases args; simp_all
  obtain ⟨rfl, rfl⟩ := trodVars_none hV
  obtain ⟨a0, len0, cap0, X0, Y0, rfl, q00, q01, q02⟩ := open_pts Try.underlying23 Try.underlying34 (by kernel_rfl) (by kernel_rfl) Try.underlying3 rfl rfl (hval 0 23 v0 rfl rfl) h0
  obtain ⟨a1, rfl, rfl, rfl, w1⟩ := open_int Try.underlying3 (hval 1 3 v1 rfl rfl) h1
  refine (walk a0 len0 cap0 X0 Y0 q00 q01 a1 w1 W q02).mono fun e W' ⟨he, hb⟩ => ?_
  subst he
  exact ⟨_, rfl, law_post (by kernel_rfl) (by kernel_rfl) rfl (show Try.f4.resultTypes = #[4] by kernel_rfl) Try.underlying4 hW' rfl rfl rfl hb⟩
theorem over : Rows.trackerCentresRow.holds Try.pinned (OpenSpec.ofChange Rows.trackerCentresSpec) :=
  OpenClaim.holds_of_wide 4 Try.f4 rfl rfl rfl rfl rfl rfl rfl ⟨rfl, rfl, rfl, rfl, rfl⟩ rfl rfl rfl rfl rfl (by kernel_rfl) Try.func4 (by kernel_rfl)
    (of_decide_eq_true (by kernel_rfl)) (by unfold Func.isWrapper; first | (rw [if_pos (by decide +kernel)]; kernel_rfl) | (rw [if_neg (by decide +kernel)]; exact ⟨rfl, rfl⟩))
    (fun os started H enc _ => lifted os started H enc)
/-- THE STATEMENT. -/
theorem proved : Rows.TrackerCentresSaid := over
#print axioms proved
end Go.Proofs.Ytdcclpdnnhaeoaa.trackerCentres
