/- The law MotionCollides returns true for every input; its arguments read afterwards as before. No condition. -/
import Derived.Test.YthfpdlkeagoamaaL7w
import Derived.Test.YthfpdlkeagoamaaRows
namespace Go.Proofs.Ythfpdlkeagoamaa.motionCollides
open Go.ChangeShapes Go.WideShapes Go.ChangeAt Go.RowKit

set_option linter.unusedVariables false
open Go.ChangeShapes Go.WideShapes Go.ChangeAt Go.RowKit Go.Joins Go.Deep
theorem u8_range {a : Int} (h : (Lit.int .u8 a).wf = true) : 0 ≤ a ∧ a ≤ 255 := by
  simp [Lit.wf, IntKind.min, IntKind.max, IntKind.signed, IntKind.bits] at h
  omega
/-- two numbers and a slice of bytes, by value -/
theorem open_grid {H : Type} {enc : TypeId × Value → H} {P : Program} {W : World} {base b0 : Nat} {spare : Nat → Bool} {held : Bool} {r : Reach} {t ti ts te : TypeId} {f0 f1 f2 : Field} {v : Value} {d : DataW H} {p : List MemPlace} (hs : P.underlying t = some (.struct #[f0, f1, f2])) (hone : oneCellFields P #[f0, f1, f2] = true) (hC : P.cellsOf t = 3) (hi : P.underlying ti = some (.int .i64)) (e0 : f0.type = ti) (e1 : f1.type = ti) (e2 : f2.type = ts) (hsl : P.underlying ts = some (.slice te)) (hu : P.underlying te = some (.int .u8)) (hte : P.cellsOf te = 1)
    (hv : Value.okWide P W r b0 t v) (h : DataW.Trod enc P W base spare held t v d p) : ∃ (a0 a1 : Int) (a : Option Addr) (len cap : Nat) (c : Nat → Int), v = .agg #[.int .i64 a0, .int .i64 a1, .slice a len cap] ∧ (0 < len → ∃ b off, a = some ⟨b, off, none⟩ ∧ b < W.heap.size ∧ ∀ i, i < len → W.cell? ⟨b, off + i, none⟩ = some (.int .u8 (c i)) ∧ 0 ≤ c i ∧ c i ≤ 255) := by
  obtain ⟨v0, v1, v2, y0, y1, y2, n, rfl, rfl, rfl, h0, h1, h2⟩ := open_agg3 hs hone hC hv h
  rw [e0] at h0
  rw [e1] at h1
  rw [e2] at h2
  obtain ⟨a0, g0, _, w0⟩ := DataW.trod_int hi h0
  obtain ⟨a1, g1, _, w1⟩ := DataW.trod_int hi h1
  simp at g0 g1
  subst g0 g1
  rcases open_ints hsl hu hte h2 with ⟨g2, _⟩ | ⟨a, len, cap, zs, g2, _, hl, _, hz, _, hc, hwf⟩
  · simp at g2
    subst g2
    exact ⟨a0, a1, none, 0, 0, fun _ => 0, rfl, fun h => absurd h (by omega)⟩
  · simp at g2
    subst g2
    have hlz : len ≤ zs.length := by rw [hz]; split <;> omega
    refine ⟨a0, a1, some a, len, cap, fun i => zs.getD i 0, rfl, fun hp => ?_⟩
    obtain ⟨b, off, sp⟩ := a
    obtain ⟨s1, s2⟩ := cell_spot (hc 0 (by omega))
    have hsp : sp = none := by
      unfold Addr.add at s1
      simpa using s1
    subst hsp
    simp only [add_plain] at hc s2
    refine ⟨b, off, rfl, s2, fun i hi' => ⟨hc i (by omega), ?_⟩⟩
    have hm : zs.getD i 0 ∈ zs := by
      rw [List.getD_eq_getElem?_getD, List.getElem?_eq_getElem (by omega)]
      simp
    exact u8_range (hwf _ hm)
theorem walk (GW GH : Int) (ca : Option Addr) (clen ccap : Nat) (c : Nat → Int) (size : Int) (hsz : (Lit.int .i64 size).wf = true) (ma : Option Addr) (n mcap : Nat) (F : Nat → Int × Int × Int × Int) (w : World)
    (hc : 0 < clen → ∃ b off, ca = some ⟨b, off, none⟩ ∧ b < w.heap.size ∧ ∀ i, i < clen → w.cell? ⟨b, off + i, none⟩ = some (.int .u8 (c i)) ∧ 0 ≤ c i ∧ c i ≤ 255)
    (hm : 0 < n → ∃ b off, ma = some ⟨b, off, none⟩ ∧ b < w.heap.size ∧ ∀ i, i < n → w.cell? ⟨b, off + i * 4, none⟩ = some (.int .i64 (F i).1) ∧ w.cell? ⟨b, off + (i * 4 + 1), none⟩ = some (.int .i64 (F i).2.1) ∧ w.cell? ⟨b, off + (i * 4 + 2), none⟩ = some (.int .i64 (F i).2.2.1) ∧ w.cell? ⟨b, off + (i * 4 + 3), none⟩ = some (.int .i64 (F i).2.2.2) ∧
        (Lit.int .i64 (F i).1).wf = true ∧ (Lit.int .i64 (F i).2.1).wf = true ∧ (Lit.int .i64 (F i).2.2.1).wf = true ∧ (Lit.int .i64 (F i).2.2.2).wf = true) :
    Calls Try.prog 9 #[gv GW GH ca clen ccap, .int .i64 size, .slice ma n mcap] w fun e w' => e = .returned (.bool true) ∧ Below w.heap.size w w' := by
  rcases Nat.lt_or_ge 2500 clen with h | h
  · exact far GW GH ca clen ccap size ma n mcap (Or.inl h) w
  · rcases Nat.lt_or_ge 60 n with h2 | h2
    · exact far GW GH ca clen ccap size ma n mcap (Or.inr ⟨h, h2⟩) w
    · refine core GW GH ca clen ccap c size ma n mcap F h2 h w (hid hc) (hid fun hp => ?_)
      obtain ⟨b, off, g1, g2, g3⟩ := hm hp
      refine ⟨b, off, g1, g2, fun i hi => ?_⟩
      obtain ⟨x0, x1, x2, x3, r0, r1, _⟩ := g3 i hi
      have q0 := i64_range r0
      have q1 := i64_range r1
      exact ⟨x0, x1, x2, x3, q0.1, q0.2, q1.1, q1.2⟩

theorem own : ownKnob Try.prog.godebug = none := by kernel_rfl
set_option maxRecDepth 100000 in
theorem lifted (os : Os) (started : os.Started) (H : Type) (enc : TypeId × Value → H) :
    ReturnsInHanded {} Try.checked os 9 .any (Rows.motionCollidesSpec.pre6 enc Try.prog Try.f9 Rows.motionCollidesRow.domain false) (Rows.motionCollidesSpec.post enc Try.prog Try.f9 false true false false) := by
  refine returnsInHanded_of_change (C := Try.checked) own started (by kernel_rfl) Try.func9
    (ChangeSpec.witness6 (enc := enc) (C := Try.checked) false ⟨#[], #[.agg #[.int .i64 0, .int .i64 0, .slice none 0 0], .int .i64 0, .slice none 0 0], []⟩ 8 (by kernel_rfl) (by kernel_rfl) (by kernel_rfl) (by kernel_rfl)) ?_
  intro W base args ds gs before hval0 hW _ _
  have hval : ∀ (j : Nat) t v, Try.f9.params[j]? = some t → args[j]? = some v → Value.okWide Try.prog W .any base t v := hval0
  have hW' := hW
  obtain ⟨p, q, hA0, hV, rfl, hfz, hnd⟩ := hW
  have hA : DataW.TrodAll enc Try.prog W 0 (fun _ => true) true Try.f9.params.toList args.toList ds p := hA0
  rw [Try.params9] at hA hval
  obtain ⟨v0, vs0, d0, ds0, p0, q0, hargs, rfl, rfl, h0, r0⟩ := trodAll_cons hA
  obtain ⟨v1, vs1, d1, ds1, p1, q1, rfl, rfl, rfl, h1, r1⟩ := trodAll_cons r0
  obtain ⟨v2, vs2, d2, ds2, p2, q2, rfl, rfl, rfl, h2, r2⟩ := trodAll_cons r1
  obtain ⟨rfl, rfl, rfl⟩ := trodAll_nil r2
  obtain rfl : args = #[v0, v1, v2] := by cases args; simp_all
  obtain ⟨rfl, rfl⟩ := trodVars_none hV
  obtain ⟨gw, gh, ca, clen, ccap, c, rfl, hcost⟩ := open_grid Try.underlying46 (by kernel_rfl) (by kernel_rfl) Try.underlying3 rfl rfl rfl Try.underlying44 Try.underlying5 (by kernel_rfl) (hval 0 46 v0 rfl rfl) h0
  obtain ⟨a1, rfl, rfl, rfl, w1⟩ := open_int Try.underlying3 (hval 1 3 v1 rfl rfl) h1
  obtain ⟨ma, n, mcap, F, rfl, _, _, hmos⟩ := open_mos Try.underlying39 Try.underlying25 (by kernel_rfl) rfl rfl rfl rfl (by kernel_rfl) Try.underlying23 (by kernel_rfl) Try.underlying3 rfl rfl (hval 2 39 v2 rfl rfl) h2
  refine (walk gw gh ca clen ccap c a1 w1 ma n mcap F W hcost hmos).mono fun e W' ⟨he, hb⟩ => ?_
  subst he
  exact ⟨_, rfl, law_post (by kernel_rfl) (by kernel_rfl) rfl (show Try.f9.resultTypes = #[4] by kernel_rfl) Try.underlying4 hW' rfl rfl rfl hb⟩
theorem over : Rows.motionCollidesRow.holds Try.pinned (OpenSpec.ofChange Rows.motionCollidesSpec) :=
  OpenClaim.holds_of_wide 9 Try.f9 rfl rfl rfl rfl rfl rfl rfl ⟨rfl, rfl, rfl, rfl, rfl⟩ rfl rfl rfl rfl rfl (by kernel_rfl) Try.func9 (by kernel_rfl)
    (of_decide_eq_true (by kernel_rfl)) (by unfold Func.isWrapper; first | (rw [if_pos (by decide +kernel)]; kernel_rfl) | (rw [if_neg (by decide +kernel)]; exact ⟨rfl, rfl⟩))
    (fun os started H enc _ => lifted os started H enc)
/-- THE STATEMENT. -/
theorem proved : Rows.MotionCollidesSaid := over
#print axioms proved
end Go.Proofs.Ythfpdlkeagoamaa.motionCollides
