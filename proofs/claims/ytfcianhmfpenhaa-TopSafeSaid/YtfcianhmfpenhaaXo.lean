/- The law TopSafe, walked: it returns true. -/
import Derived.Test.YtfcianhmfpenhaaXn
import Derived.Deep.RegionHeld3
import Derived.Deep.DeepCutAuto
namespace Go.Proofs.Ytfcianhmfpenhaa
open Go.RowKit Go.Maps
set_option linter.unusedVariables false
set_option linter.unusedSimpArgs false
def Bnd (T x y : Int) : Prop := -(100000 + 59 * T) ≤ x ∧ x ≤ 100000 + 59 * T ∧ -(100000 + 59 * T) ≤ y ∧ y ≤ 100000 + 59 * T
theorem Bnd.mono {T T' x y : Int} (h : Bnd T x y) (hT : T ≤ T') : Bnd T' x y := by unfold Bnd at *; omega
structure Kp (w0 w : World) (sb pb mb gl gm gu : Nat) (S A B H M al md px py rx ry t : Int) (lw C : Nat) (X Y : Nat → Int) : Prop where
  s : Sup w sb pb S A B H M 5 al md
  p : Prs w pb mb H t lw lw C X Y
  l : Lm w gl S A B H M
  m : Mm w gm px py rx ry
  f : Fb w gu rx ry
  b : Below w0.heap.size w0 w
theorem Kp.grown {w0 w w' : World} {sb pb mb gl gm gu : Nat} {S A B H M al md px py rx ry t : Int} {lw C : Nat} {X Y : Nat → Int} (h : Kp w0 w sb pb mb gl gm gu S A B H M al md px py rx ry t lw C X Y) {g : Nat} (hg : w.grownBy w' (some g)) (h1 : sb ≠ g) (h2 : pb ≠ g) (h3 : mb ≠ g) (h4 : gl ≠ g) (h5 : gm ≠ g) (h6 : gu ≠ g) (h7 : w0.heap.size ≤ g) :
    Kp w0 w' sb pb mb gl gm gu S A B H M al md px py rx ry t lw C X Y :=
  ⟨h.s.grown hg h1, h.p.grown hg h2 h3, h.l.grown hg h4, h.m.grown hg h5, h.f.grown hg h6, bgr h.b hg h7 h.b.size⟩
theorem Kp.below {w0 w w' : World} {sb pb mb gl gm gu : Nat} {S A B H M al md px py rx ry t : Int} {lw C : Nat} {X Y : Nat → Int} (h : Kp w0 w sb pb mb gl gm gu S A B H M al md px py rx ry t lw C X Y) (hb : Below w.heap.size w w') : Kp w0 w' sb pb mb gl gm gu S A B H M al md px py rx ry t lw C X Y :=
  ⟨h.s.below hb, h.p.below hb, h.l.below hb, h.m.below hb, h.f.below hb, h.b.trans (hb.mono h.b.size)⟩
theorem Prs.mono {w : World} {pb mb : Nat} {H t : Int} {len k C C' : Nat} {X Y : Nat → Int} (h : Prs w pb mb H t len k C X Y) (hC : C ≤ C') : Prs w pb mb H t len k C' X Y := by
  obtain ⟨n, f, h1, h2, h3, h4, h5⟩ := h
  exact ⟨n, f, by omega, h2, h3, h4, h5⟩
theorem kp_set {w0 w : World} {sb pb mb gl gm gu : Nat} {S A B H M al md px py vx vy rx ry t : Int} {lw C : Nat} {X Y : Nat → Int} (hS : Sup w sb pb S A B H M 5 al md) (hP : Prs w pb mb H t lw lw C X Y) (hL : Lm w gl S A B H M) (hM : Mm w gm px py vx vy) (hF : Fb w gu rx ry) (hb : Below w0.heap.size w0 w)
    (h1 : sb ≠ gm) (h2 : pb ≠ gm) (h3 : mb ≠ gm) (h4 : gl ≠ gm) (h6 : gu ≠ gm) (h7 : w0.heap.size ≤ gm) (qx qy : Int) : Kp w0 (set4 w gm qx qy rx ry) sb pb mb gl gm gu S A B H M al md qx qy rx ry t lw C X Y :=
  ⟨hS.kept (by rw [set4_sz]; exact hS.lt) (set4_heap h1 _ _ _ _), hP.kept (by rw [set4_sz]; exact Nat.le_refl _) (set4_heap h2 _ _ _ _) (set4_heap h3 _ _ _ _), hL.keep (by rw [set4_sz]; exact Nat.le_refl _) (set4_heap h4 _ _ _ _), hM.set _ _ _ _, hF.keep (by rw [set4_sz]; exact Nat.le_refl _) (set4_heap h6 _ _ _ _),
    (((hb.setCell (by show w0.heap.size ≤ gm; omega) _).setCell (by show w0.heap.size ≤ gm; omega) _).setCell (by show w0.heap.size ≤ gm; omega) _).setCell (by show w0.heap.size ≤ gm; omega) _⟩
theorem bnd_upd {lw k : Nat} {t : Int} {X Y : Nat → Int} {dx dy : Int} (hk : k < lw) (h : ∀ i, i < lw → (i < k → Bnd (t + 1) (X i) (Y i)) ∧ (k ≤ i → Bnd t (X i) (Y i))) (d1 : -59 ≤ dx) (d2 : dx ≤ 59) (d3 : -59 ≤ dy) (d4 : dy ≤ 59) :
    ∀ i, i < lw → (i < k + 1 → Bnd (t + 1) (updN X k (X k + dx) i) (updN Y k (Y k + dy) i)) ∧ (k + 1 ≤ i → Bnd t (updN X k (X k + dx) i) (updN Y k (Y k + dy) i)) := fun i hi => by
  obtain ⟨g1, g2⟩ := h i hi
  refine ⟨fun h' => ?_, fun h' => ?_⟩
  · by_cases e : i = k
    · subst e
      rw [updN_same, updN_same]
      have := g2 (Nat.le_refl _)
      unfold Bnd at *
      omega
    · rw [updN_ne e, updN_ne e]
      exact g1 (by omega)
  · rw [updN_ne (by omega), updN_ne (by omega)]
    exact g2 (by omega)
set_option maxRecDepth 100000 in
set_option maxHeartbeats 16000000 in
theorem safe_more (a b c d e : Int) (h1 : 0 ≤ a) (h2 : a ≤ 65535) (h3 : 0 ≤ b) (h4 : b ≤ 65535) (h5 : 0 ≤ c) (h6 : c ≤ 65535) (h7 : 0 ≤ d) (h8 : d ≤ 65535) (h9 : 0 ≤ e) (h10 : e ≤ 65535) (ga : Option Addr) (len cap : Nat) (gb : Option Addr) (lw cb : Nat) (hl : len ≤ maxLen) (hlw : lw ≤ maxLen) (h : 3 < lw) (w : World) :
    Calls Try.prog 3 #[.agg #[.int .u16 a, .int .u16 b, .int .u16 c, .int .u16 d, .int .u16 e], .slice ga len cap, .slice gb lw cb] w fun en w' => en = .returned (.bool true) ∧ Below w.heap.size w w' := by
  have HL := hid (fun w => slim_any a b c d e h1 h2 h3 h4 h5 h6 h7 h8 h9 h10 w)
  have hlI : (3 : Int) < (lw : Int) := by omega
  have hM : maxLen ≤ 9223372036854775807 := by decide
  generalize 1 + b % (1 + a % 400) = A at *
  generalize 1 + c % (1 + a % 400) = B at *
  generalize 1 + a % 400 = S at *
  generalize d % 60 = H at *
  generalize e % 1500 = M at *
  go_enter Try.func3, Try.ntmps3
  go_wp2_with (first
    | (go_at_call 5; (with_reducible refine (HL.out _).mono ?_); rintro en w1 ⟨rfl, hb1⟩)
    | (go_at_call 6; (with_reducible refine (awake_any _).mono ?_); rintro en w5 ⟨rfl, hb5⟩))
  go_ret
  exact ⟨rfl, (below_box hb1).trans ((below_box hb5).mono (by have := hb1.size; simp at this; omega))⟩
set_option maxRecDepth 100000 in
set_option maxHeartbeats 16000000 in
theorem safe_long (a b c d e : Int) (h1 : 0 ≤ a) (h2 : a ≤ 65535) (h3 : 0 ≤ b) (h4 : b ≤ 65535) (h5 : 0 ≤ c) (h6 : c ≤ 65535) (h7 : 0 ≤ d) (h8 : d ≤ 65535) (h9 : 0 ≤ e) (h10 : e ≤ 65535) (ga : Option Addr) (len cap : Nat) (gb : Option Addr) (lw cb : Nat) (hl : len ≤ maxLen) (hlw : lw ≤ 3) (h : 60 < len) (w : World) :
    Calls Try.prog 3 #[.agg #[.int .u16 a, .int .u16 b, .int .u16 c, .int .u16 d, .int .u16 e], .slice ga len cap, .slice gb lw cb] w fun en w' => en = .returned (.bool true) ∧ Below w.heap.size w w' := by
  have HL := hid (fun w => slim_any a b c d e h1 h2 h3 h4 h5 h6 h7 h8 h9 h10 w)
  have hlI : (lw : Int) ≤ 3 := by omega
  have hlI2 : (60 : Int) < (len : Int) := by omega
  have hM : maxLen ≤ 9223372036854775807 := by decide
  generalize 1 + b % (1 + a % 400) = A at *
  generalize 1 + c % (1 + a % 400) = B at *
  generalize 1 + a % 400 = S at *
  generalize d % 60 = H at *
  generalize e % 1500 = M at *
  go_enter Try.func3, Try.ntmps3
  go_wp2_with (first
    | (go_at_call 5; (with_reducible refine (HL.out _).mono ?_); rintro en w1 ⟨rfl, hb1⟩)
    | (go_at_call 6; (with_reducible refine (awake_any _).mono ?_); rintro en w5 ⟨rfl, hb5⟩))
  go_ret
  exact ⟨rfl, (below_box hb1).trans ((below_box hb5).mono (by have := hb1.size; simp at this; omega))⟩
set_option maxRecDepth 100000 in
set_option maxHeartbeats 64000000 in
theorem safe_walk (a b c d e : Int) (h1 : 0 ≤ a) (h2 : a ≤ 65535) (h3 : 0 ≤ b) (h4 : b ≤ 65535) (h5 : 0 ≤ c) (h6 : c ≤ 65535) (h7 : 0 ≤ d) (h8 : d ≤ 65535) (h9 : 0 ≤ e) (h10 : e ≤ 65535) (ga : Option Addr) (len cap : Nat) (gb : Option Addr) (lw cb : Nat) (WX WY SX SY : Nat → Int) (MA : Nat → Option Addr) (MN MC : Nat → Nat) (MX MY : Nat → Nat → Int) (hlen : len ≤ 60) (hlw : lw ≤ 3) (w : World)
    (ha : Hid (Wants w ga len WX WY)) (HWK : Hid (Wks w gb lw SX SY MA MN MC MX MY)) :
    Calls Try.prog 3 #[.agg #[.int .u16 a, .int .u16 b, .int .u16 c, .int .u16 d, .int .u16 e], .slice ga len cap, .slice gb lw cb] w fun en w' => en = .returned (.bool true) ∧ Below w.heap.size w w' := by
  obtain ⟨i0, hi, hz0, hz1, hz2⟩ := info_parts info35
  have HL := hid (fun w => slim_any a b c d e h1 h2 h3 h4 h5 h6 h7 h8 h9 h10 w)
  have hlI : (len : Int) ≤ 60 := by omega
  have hlI2 : (lw : Int) ≤ 3 := by omega
  obtain ⟨s1, s2, a1, a2, b1, b2, q1, q2, m1, m2⟩ := lim_chk (a := a) (b := b) (c := c) (d := d) (e := e)
  generalize 1 + b % (1 + a % 400) = A at *
  generalize 1 + c % (1 + a % 400) = B at *
  generalize 1 + a % 400 = S at *
  generalize d % 60 = H at *
  generalize e % 1500 = M at *
  have HCK := hid (chk_of s1 s2 a1 a2 b1 b2 q1 q2 m1 m2)
  have HN := hid (fun w => new_ok S A B H M 5 HCK.out (by omega) (by omega) w)
  clear h1 h2 h3 h4 h5 h6 h7 h8 h9 h10 a1 a2
  go_enter Try.func3, Try.ntmps3
  go_upto_region 4 with (first
    | (go_at_call 5; (with_reducible refine (HL.out _).mono ?_); rintro en w1 ⟨rfl, hb1⟩))
  have hs1 := hb1.size
  rw [szA] at hs1
  have HL1 := hid (Lm.new w1 S A B H M)
  have hB1 : Below w.heap.size w (w1.alloc (.cells #[.int .i64 S, .int .i64 A, .int .i64 B, .int .i64 H, .int .i64 M] 27)) := (below_box hb1).alloc (by omega) _
  have hs2 : (w1.alloc (.cells #[.int .i64 S, .int .i64 A, .int .i64 B, .int .i64 H, .int .i64 M] 27)).heap.size = w1.heap.size + 1 := szA
  clear hb1
  generalize (w1.alloc (.cells #[.int .i64 S, .int .i64 A, .int .i64 B, .int .i64 H, .int .i64 M] 27)) = w2 at *
  obtain ⟨_, t0, t1, t2, t3, t4⟩ := HL1.out
  go_upto_region 10 with (first
    | (go_at_call 7; (with_reducible refine (HN.out _).mono ?_); rintro en w3 ⟨sb, pb, mb, rfl, hS3, hP3, l1, l2, l3, n1, n2, n3, hb3⟩))
  have hs3 := hb3.size
  have HS := hid (hS3.below ((Below.refl _ _).alloc (Nat.le_refl _) (.cells #[.int .i64 0, .int .i64 0, .int .i64 0, .int .i64 0] 37)))
  have HP := hid (hP3.below ((Below.refl _ _).alloc (Nat.le_refl _) (.cells #[.int .i64 0, .int .i64 0, .int .i64 0, .int .i64 0] 37)))
  have HLm := hid ((HL1.out.below hb3).below ((Below.refl _ _).alloc (Nat.le_refl _) (.cells #[.int .i64 0, .int .i64 0, .int .i64 0, .int .i64 0] 37)))
  have HM0 := hid (Mm.new w3 0 0 0 0)
  have hB := (hB1.trans (hb3.mono (by omega))).alloc (by omega) (.cells #[.int .i64 0, .int .i64 0, .int .i64 0, .int .i64 0] 37)
  have hl3 := hP3.lt
  have hl4 := hP3.mlt
  have hl5 := hS3.lt
  have hsW : (w3.alloc (.cells #[.int .i64 0, .int .i64 0, .int .i64 0, .int .i64 0] 37)).heap.size = w3.heap.size + 1 := szA
  clear hS3 hP3 hb3 HL1 HN hB1 HL t0 t1 t2 t3 t4
  generalize w3.alloc (.cells #[.int .i64 0, .int .i64 0, .int .i64 0, .int .i64 0] 37) = W at *
  go_loopw [11, 12] (fun s11 s12 wr => ∃ (k : Nat), s12 = .int .i64 k ∧ k ≤ lw ∧ wr.ownsRow W.heap.size 35 2 s11 k (flatP SX SY k) ∧ Hid (∀ i, i < k → nearB (SX i) (SY i) = true ∧ MN i ≤ 60) ∧ Below W.heap.size W wr) (fun _ s12 _ => lw - (intOf s12).toNat)
  case atStart => exact ⟨0, rfl, Nat.zero_le _, ⟨rfl, .inl ⟨rfl, rfl⟩⟩, hid (fun i h => absurd h (by omega)), Below.refl _ _⟩
  case round =>
    obtain ⟨k, rfl, hk, hown, HNR, hb⟩ := hrel
    have hsr := hb.size
    have hBr : Below w.heap.size w wr := hB.trans (hb.mono (by omega))
    by_cases hkT : k < lw
    · obtain ⟨bw, off, rfl, hbw, hcell⟩ := HWK.out (by omega)
      obtain ⟨x0, x1, x2, hml, -⟩ := hcell k hkT
      clear hcell
      have hkI : (k : Int) < (lw : Int) := by omega
      have hkI0 : (0 : Int) ≤ (k : Int) := by omega
      have y0 : wr.cell? ⟨bw, off + k * 3, none⟩ = some (.int .i64 (SX k)) := (hBr.cell hbw).trans x0
      have y1 : wr.cell? ⟨bw, off + k * 3 + 1, none⟩ = some (.int .i64 (SY k)) := (hBr.cell hbw).trans x1
      have HY := hid (fun (w' : World) (h : Below w.heap.size w w') => And.intro ((h.cell hbw).trans x0) (And.intro ((h.cell hbw).trans x1) ((h.cell hbw).trans x2)))
      clear x0 x1 x2
      have HNB := hid (fun w => near_any (SX k) (SY k) w)
      cases e1 : nearB (SX k) (SY k) with
      | false =>
        rw [e1] at HNB
        clear e1
        go_wp2_with (first
          | (go_at_call 8; (with_reducible refine (HNB.out _).mono ?_); rintro en w4 ⟨rfl, hb4⟩)
          | (go_at_call 6; (with_reducible refine (awake_any _).mono ?_); rintro en w5 ⟨rfl, hb5⟩))
        go_ret
        exact ⟨rfl, (hBr.trans (hb4.mono hBr.size)).trans (hb5.mono (by have := hb4.size; have := hBr.size; omega))⟩
      | true =>
        rw [e1] at HNB
        have HE1 := hid e1
        clear e1
        by_cases h60 : MN k ≤ 60
        · have h60I : (MN k : Int) ≤ 60 := by omega
          have HF : Hid (flatP SX SY (k + 1) = flatP SX SY k ++ [.int .i64 (SX k), .int .i64 (SY k)]) := hid rfl
          generalize flatP SX SY k = LK at *
          go_wp2_with (first
            | (go_at_call 8; (with_reducible refine (HNB.out _).mono ?_); rintro en w4 ⟨rfl, hb4⟩; have hs4 := hb4.size; have hown4 := own_below hown hb4; have hB4 : Below w.heap.size w w4 := hBr.trans (hb4.mono hBr.size); obtain ⟨z0, z1, z2⟩ := HY.out _ hB4)
            | (at_builtin; refine wpList_append_own_at _ rfl _ _ 24 rfl W.heap.size 35 i0 (.agg #[.int .i64 0, .int .i64 0]) 2 16 Try.underlying24 hi hz0 hz1 hz2 agg2_size (by decide) u11 k LK rfl (hown4.alloc _) ⟨w4.heap.size, 0, none⟩ 1 1 [.int .i64 (SX k), .int .i64 (SY k)] rfl rfl (cells2_new rfl _ _ _) (one2 _ _) (by unfold maxLen; omega) (by omega) (by rw [alloc_size]; have := hb.size; omega) ?_
               intro v' w5 hown5 hgrow5 _ hat5; have HG := hid hgrow5; clear hgrow5))
          go_roundw
          case rel =>
            refine ⟨k + 1, by go_num, by omega, ?_, ?_, ?_⟩
            · rw [HF.out]; exact hown5
            · exact hid (fun i hi => by
                rcases Nat.lt_or_ge i k with h | h
                · exact HNR.out i h
                · obtain rfl : i = k := by omega
                  exact ⟨HE1.out, h60⟩)
            · exact below_app (hb.trans (hb4.mono hsr)) HG.out (fun k hk => (hown.lt k hk).1)
          case measure => simp [intOf]; omega
        · have h60I : (60 : Int) < (MN k : Int) := by omega
          have hM : maxLen ≤ 9223372036854775807 := by decide
          go_wp2_with (first
            | (go_at_call 8; (with_reducible refine (HNB.out _).mono ?_); rintro en w4 ⟨rfl, hb4⟩; have hB4 : Below w.heap.size w w4 := hBr.trans (hb4.mono hBr.size); obtain ⟨z0, z1, z2⟩ := HY.out _ hB4)
            | (go_at_call 6; (with_reducible refine (awake_any _).mono ?_); rintro en w5 ⟨rfl, hb5⟩))
          go_ret
          exact ⟨rfl, hB4.trans (hb5.mono hB4.size)⟩
    · obtain rfl : lw = k := by omega
      obtain ⟨ga', cap', g, rfl, hag, hbg, hAt⟩ := at_own hown
      have HAt := hid hAt
      have HS1 := hid (HS.out.below hb)
      have HP1 := hid (Prs.start lw SX SY (HP.out.below hb))
      have HLm1 := hid (HLm.out.below hb)
      have HM1 := hid (HM0.out.below hb)
      have HX0 : Hid (∀ i, i < lw → -100000 ≤ SX i ∧ SX i ≤ 100000 ∧ -100000 ≤ SY i ∧ SY i ≤ 100000) := hid (fun i hi => nearB_true (HNR.out i hi).1)
      have HN60 : Hid (∀ i, i < lw → MN i ≤ 60) := hid (fun i hi => (HNR.out i hi).2)
      have HV0 : Hid (sqr 0 0 ≤ S * S) := hid (by have := sq_self_nonneg S; have e : sqr 0 0 = 0 := (by decide); omega)
      have hwr : w3.heap.size < wr.heap.size := by omega
      have hgW : w3.heap.size < g := by omega
      clear hAt hown hb HS HP HLm HM0 HNR hi hz0 hz1 hz2 hB hkT hk
      clear hbg hsr hsW
      go_upto_region 16 with fail
      obtain ⟨W1, rfl⟩ : ∃ W1 : World, W1 = wr := ⟨_, rfl⟩
      go_loopw [13] (fun s13 wr => ∃ (t : Nat) (px py vx vy al md : Int) (X Y : Nat → Int), s13 = .int .i64 t ∧ t ≤ len ∧ Hid (Sup wr sb pb S A B H M 5 al md) ∧ Hid (demB md = false) ∧ 0 ≤ al ∧ al ≤ t ∧ (t : Int) - al ≤ 1 ∧ Hid (Prs wr pb mb H t lw 0 (3 * t) X Y) ∧ Hid (At wr g 0 lw X Y) ∧ Hid (Lm wr w1.heap.size S A B H M) ∧ Hid (Mm wr w3.heap.size px py vx vy) ∧ -(400 * (t : Int)) ≤ px ∧ px ≤ 400 * t ∧ -(400 * (t : Int)) ≤ py ∧ py ≤ 400 * t ∧ Hid (sqr vx vy ≤ S * S) ∧ Hid (Inv S B H M lw px py vx vy X Y) ∧ Hid (∀ i, i < lw → Bnd (t : Int) (X i) (Y i)) ∧ w3.heap.size < wr.heap.size ∧ Below w.heap.size w wr) (fun s13 _ => len - (intOf s13).toNat)
      case atStart => exact ⟨0, 0, 0, 0, 0, 0, 1, SX, SY, rfl, Nat.zero_le _, HS1, hid (by decide), by omega, by omega, by omega, HP1, HAt, HLm1, HM1, by omega, by omega, by omega, by omega, HV0, hid (Or.inl ⟨rfl, rfl⟩), hid (fun i hi => by have := HX0.out i hi; unfold Bnd; omega), hwr, hBr⟩
      case round =>
        clear HS1 HP1 HAt HLm1 HM1 HX0 HV0 hwr hBr
        obtain ⟨t, px, py, vx, vy, al, md, X, Y, rfl, ht, hS, hD, u1, u2, u3, hP, hAt, hLm, hMm, p1, p2, p3, p4, hv, hI, hX, hsr, hb⟩ := hrel
        by_cases htT : t < len
        · obtain ⟨ba, oa, rfl, hba, hcell⟩ := ha.out (by omega)
          obtain ⟨x0, x1⟩ := hcell t htT
          clear hcell
          have htI : (t : Int) < (len : Int) := by omega
          have htI0 : (0 : Int) ≤ (t : Int) := by omega
          have y0 : wr.cell? ⟨ba, oa + t * 2, none⟩ = some (.int .i64 (WX t)) := (hb.cell hba).trans x0
          have y1 : wr.cell? ⟨ba, oa + t * 2 + 1, none⟩ = some (.int .i64 (WY t)) := (hb.cell hba).trans x1
          have HYW := hid (fun (w' : World) (h : Below w.heap.size w w') => And.intro ((h.cell hba).trans x0) ((h.cell hba).trans x1))
          clear x0 x1
          have HNB := hid (fun w => near_any (WX t) (WY t) w)
          cases e1 : nearB (WX t) (WY t) with
          | false =>
            rw [e1] at HNB
            clear e1
            go_wp2_with (first
                | (go_at_call 8; (with_reducible refine (HNB.out _).mono ?_); rintro en w4 ⟨rfl, hb4⟩)
                | (go_at_call 6; (with_reducible refine (awake_any _).mono ?_); rintro en w5 ⟨rfl, hb5⟩))
            go_ret
            exact ⟨rfl, (hb.trans (hb4.mono hb.size)).trans (hb5.mono (by have := hb4.size; have := hb.size; omega))⟩
          | true =>
            rw [e1] at HNB
            clear e1
            go_upto_region 21 with (first | (go_at_call 8; (with_reducible refine (HNB.out _).mono ?_); rintro en w4 ⟨rfl, hb4⟩))
            have hs4 := hb4.size
            have hS4 := hid (hS.out.below hb4)
            have hP4 := hid (hP.out.below hb4)
            have hA4 := hid (hAt.out.below hb4)
            have hLm4 := hid (hLm.out.below hb4)
            have hMm4 := hid (hMm.out.below hb4)
            have hB4 := hb.trans (hb4.mono hb.size)
            have h3w4 : w3.heap.size < w4.heap.size := by omega
            clear hb4 hS hP hAt hLm hMm hb HNB y0 y1 hsr hs4
            go_loopw [14] (fun s14 wq => ∃ k : Nat, s14 = .int .i64 k ∧ k ≤ lw ∧ Hid (Prs wq pb mb H t lw k (3 * t + k) X Y) ∧ Hid (w4.grownBy wq (some mb))) (fun s14 _ => lw - (intOf s14).toNat)
            case atStart => exact ⟨0, rfl, Nat.zero_le _, hP4, hid (grefl _)⟩
            case round =>
              obtain ⟨k, rfl, hk, hPk, hG⟩ := hrel
              have hgs := hG.out.size
              have hSk := hid (hS4.out.grown hG.out (by omega))
              have hAk := hid (hA4.out.grown hG.out (by omega))
              by_cases hkT : k < lw
              · obtain ⟨z0, z1, -, -⟩ := hAk.out.c k hkT
                have z2 := z0
                have z3 := z1
                rw [Nat.zero_add] at z2 z3
                obtain rfl := hag (by omega)
                have hbx := hX.out k hkT
                unfold Bnd at hbx
                have hkI : (k : Int) < (lw : Int) := by omega
                have hkI0 : (0 : Int) ≤ (k : Int) := by omega
                have HSEE := hid (see_any (k := k) (t : Int) (by omega) (by omega) hkT (by omega) (by omega) (by omega) (by omega) (by omega) (by omega) wr hSk hPk)
                go_wp2_with (first | (go_at_call 9; (with_reducible refine HSEE.out.mono ?_); rintro en w5 ⟨rfl, hP5, hg5⟩))
                go_roundw
                case rel => exact ⟨k + 1, by go_num, by omega, hid hP5, hid (gtrans hG.out hg5)⟩
                case measure => simp [intOf]; omega
              · obtain rfl : lw = k := by omega
                have hlt := hSk.out.lt
                have HAL := hid (alive_ok (t := (t : Int)) wr hSk.out.c7 hSk.out.f7 (by omega) (by omega) (by omega))
                have hS6 := hid (hSk.out.alive (t : Int))
                have hsz6 : (wr.setCell ⟨sb, 7, none⟩ (.int .i64 (t : Int))).heap.size = wr.heap.size := set_sz _ _ _
                have hP6 := hid (hPk.out.kept (w' := wr.setCell ⟨sb, 7, none⟩ (.int .i64 (t : Int))) (by rw [set_sz]; exact Nat.le_refl _) (Below.heap_setCell _ _ _ _ (by show pb ≠ sb; omega)) (Below.heap_setCell _ _ _ _ (by show mb ≠ sb; omega)))
                have hA6 := hid (hAk.out.kept (w' := wr.setCell ⟨sb, 7, none⟩ (.int .i64 (t : Int))) (by rw [set_sz]; exact Nat.le_refl _) (fun _ => Below.heap_setCell _ _ _ _ (by show g ≠ sb; omega)))
                have hLm6 := hid ((hLm4.out.grown hG.out (by omega)).keep (w' := wr.setCell ⟨sb, 7, none⟩ (.int .i64 (t : Int))) (by rw [set_sz]; exact Nat.le_refl _) (Below.heap_setCell _ _ _ _ (by show w1.heap.size ≠ sb; omega)))
                have hMm6 := hid ((hMm4.out.grown hG.out (by omega)).keep (w' := wr.setCell ⟨sb, 7, none⟩ (.int .i64 (t : Int))) (by rw [set_sz]; exact Nat.le_refl _) (Below.heap_setCell _ _ _ _ (by show w3.heap.size ≠ sb; omega)))
                have hB6 := (bgr hB4 hG.out (by omega) hB4.size).setCell (p := ⟨sb, 7, none⟩) (by show w.heap.size ≤ sb; omega) (.int .i64 (t : Int))
                go_upto_region 27 with (first | (go_at_call 10; (with_reducible refine HAL.out.mono ?_); rintro en w5 ⟨rfl, rfl⟩))
                have h3w6 : w3.heap.size < (wr.setCell ⟨sb, 7, none⟩ (.int .i64 (t : Int))).heap.size := by omega
                clear HAL hSk hAk hG hPk hS4 hA4 hP4 hLm4 hMm4 hB4 hgs hsz6 hkT hk hlt
                generalize wr.setCell ⟨sb, 7, none⟩ (.int .i64 (t : Int)) = W6 at *
                clear h3w4
                clear u1 u2 u3
                have HV := hid (vld_of (px := px) (py := py) HCK.out (by omega) (by omega) (by omega) (by omega) hv.out)
                have HXb : Hid (∀ i, i < lw → -1048576 ≤ X i ∧ X i ≤ 1048576 ∧ -1048576 ≤ Y i ∧ Y i ≤ 1048576) := hid (fun i hi => by have := hX.out i hi; unfold Bnd at this; omega)
                have HLIM := hid (fun (w' : World) (h : Below W6.heap.size W6 w') => limit_seen (wx := WX t) (wy := WY t) (t : Int) px py vx vy (by omega) (by omega) (show 0 ≤ (t : Int) by omega) (Int.le_refl _) (by omega) HV.out hD.out (C := 3 * t + lw) (by omega) (by omega) HXb.out hI.out w' (hid (hS6.out.below h)) (hid (hP6.out.below h)))
                obtain ⟨y0, y1⟩ := HYW.out _ hB6
                have hba6 : ba < W6.heap.size := by have := hB6.size; omega
                have hbs : ba ≠ sb := by omega
                have hbg : ba ≠ g := by omega
                go_cut [15] (fun s15 wq => ∃ (gu : Nat) (rx ry md' : Int), s15 = .pointer (some ⟨gu, 0, none⟩) ∧ Hid (Fb wq gu rx ry) ∧ Hid (Sup wq sb pb S A B H M 5 t md') ∧ Hid (demB md' = false) ∧ Hid (sqr rx ry ≤ S * S) ∧ Hid (∃ c, Hlf S B H M lw 0 c px py rx ry X Y) ∧ W6.heap.size ≤ gu ∧ Hid (W6.grownBy wq (some sb)))
                case first =>
                  have HSS : Hid (∀ w', W6.grownBy w' (some sb) → w'.cell? ⟨w3.heap.size, 0, none⟩ = some (.int .i64 px) ∧ w'.cell? ⟨w3.heap.size, 1, none⟩ = some (.int .i64 py) ∧ w'.cell? ⟨w3.heap.size, 2, none⟩ = some (.int .i64 vx) ∧ w'.cell? ⟨w3.heap.size, 3, none⟩ = some (.int .i64 vy) ∧ w'.cell? ⟨ba, oa + t * 2, none⟩ = some (.int .i64 (WX t)) ∧ w'.cell? ⟨ba, oa + t * 2 + 1, none⟩ = some (.int .i64 (WY t))) := hid (fun w' hg => by
                    have hM' := hMm6.out.grown hg (by omega)
                    exact ⟨hM'.c0, hM'.c1, hM'.c2, hM'.c3, (World.cell?_of_block (hg.block _ hba6 (fun e => hbs (by simpa using e)))).trans y0, (World.cell?_of_block (hg.block _ hba6 (fun e => hbs (by simpa using e)))).trans y1⟩)
                  obtain ⟨m0, m1', m2', m3, -, -⟩ := HSS.out _ (grefl _)
                  go_region_held3 (fun w' => w'.cell? ⟨w3.heap.size, 0, none⟩ = some (.int .i64 px) ∧ w'.cell? ⟨w3.heap.size, 1, none⟩ = some (.int .i64 py) ∧ w'.cell? ⟨w3.heap.size, 2, none⟩ = some (.int .i64 vx) ∧ w'.cell? ⟨w3.heap.size, 3, none⟩ = some (.int .i64 vy) ∧ w'.cell? ⟨ba, oa + t * 2, none⟩ = some (.int .i64 (WX t)) ∧ w'.cell? ⟨ba, oa + t * 2 + 1, none⟩ = some (.int .i64 (WY t))) (first | (with_reducible refine HSS.out _ ?_; (repeat' (first | (with_reducible exact HG5.out) | (with_reducible exact grefl _) | (with_reducible refine gdrew ?_) | (with_reducible refine galloc ?_ _) | (with_reducible refine gset ?_ ?_ _) | (exact Or.inl (by dsimp only; omega)))); done) | go_keep)
                    (first
                      | (go_at_call 11; (with_reducible refine (HLIM.out _ (by (repeat' (first | (with_reducible exact Below.refl _ _) | (with_reducible refine Below.drew ?_) | (with_reducible refine Below.alloc ?_ ?_ _) | exact Nat.le_refl _ | (simp; done))))).mono ?_); rintro en w5 ⟨rx, ry, md', rfl, hS5, hD5, hg5, hq5, hh5⟩
                         have HG5 : Hid (W6.grownBy w5 (some sb)) := hid (gtrans (by (repeat' (first | (with_reducible exact grefl _) | (with_reducible refine gdrew ?_) | (with_reducible refine galloc ?_ _)))) hg5)
                         first | (have HF5 := hid (Fb.grown (Fb.new _ 0 0) hg5 (by first | omega | (simp; omega)))) | (have HF5 := hid (Fb.grown (Fb.drew (Fb.new _ 0 0)) hg5 (by first | omega | (simp; omega)))) | skip
                         try (obtain ⟨-, e0, e1, z0, z1⟩ := HF5.out)))
                  · go_wp2_with fail
                    go_meet
                    case rel =>
                      exact ⟨_, rx, ry, md', rfl, hid (Fb.new _ _ _), hid (hS5.below ((Below.refl _ _).alloc (Nat.le_refl _) _)), hid hD5, hid hq5, hid hh5, HG5.out.size, hid (galloc HG5.out _)⟩
                  · go_wp2_with fail
                    go_meet
                    case rel =>
                      exact ⟨_, rx, ry, md', rfl, hid (HF5.out.set _ _), hid ((hS5.far (by show sb ≠ W6.heap.size; omega) _).far (by show sb ≠ W6.heap.size; omega) _), hid hD5, hid hq5, hid hh5, Nat.le_refl _, hid (gset (gset HG5.out (Or.inl (Nat.le_refl _)) _) (Or.inl (Nat.le_refl _)) _)⟩
                case rest =>
                  obtain ⟨gu, rx, ry, md', rfl, hF, hSq, hDq, hq, hH0, hgl, hGq⟩ := hcut
                  obtain ⟨cc, hH0'⟩ := hH0.out
                  have HH0 := hid hH0'
                  clear hH0' hH0
                  have hgs := hGq.out.size
                  have hgg : Hid (0 < lw → g < gu) := hid (fun h => by have := hA6.out.lt h; omega)
                  have hMq := hid (hMm6.out.grown hGq.out (by omega))
                  have hLq := hid (hLm6.out.grown hGq.out (by omega))
                  have hAq := hid (hA6.out.grown hGq.out (by omega))
                  have hPq := hid (hP6.out.grown hGq.out (by omega) (by omega))
                  have hBq := bgr hB6 hGq.out (by omega) hB6.size
                  obtain ⟨r1, r2, r3, r4⟩ := abs_of_sqr (x := rx) (y := ry) (S := S) (by omega) hq.out
                  have hFl := hF.out.lt
                  have hLl := hLq.out.lt
                  have HFAR := hid (fun w => far_any rx ry 0 0 (by omega) (by omega) (by omega) (by omega) (by omega) (by omega) (by omega) (by omega) w)
                  simp only [Int.sub_zero] at HFAR
                  have hSS0 := sq_self_nonneg S
                  have hSS1 := sq_le (a := S) (b := 400) (by omega) s2
                  have hcmp := hq.out
                  clear y0 y1 HLIM HV HXb hS6 hP6 hLm6 hMm6 hA6 hB6 hD hv hI
                  obtain ⟨-, k0, k1, -, -⟩ := hF.out
                  obtain ⟨-, t0, -, -, -, -⟩ := hLq.out
                  have hl1 : ∀ (z : Later wc) (o : Nat), z.val.cell? ⟨gu, o, none⟩ = wc.cell? ⟨gu, o, none⟩ := fun z o => z.cell hFl
                  have hl2 : ∀ (z : Later wc) (o : Nat), z.val.cell? ⟨w1.heap.size, o, none⟩ = wc.cell? ⟨w1.heap.size, o, none⟩ := fun z o => z.cell hLl
                  generalize sqr rx ry = QQ at HFAR hcmp
                  go_upto_region 28 with fail
                  refine wp_region_later (Below.refl _ _) (by kernel_rfl) (by kernel_rfl) ?_
                  repeat (go_big_quiet_step ((go_at_call 12; exact calls_later (HFAR.out _))))
                  refine wpQuiet_nil ?_
                  intro _ hw'
                  obtain ⟨z0, hw''⟩ := hw'
                  subst hw''
                  clear hl1 hl2 k0 k1 t0
                  have hszz := z0.ok.size
                  have hFz := hid (hF.out.below z0.ok)
                  have hSz := hid (hSq.out.below z0.ok)
                  have hMz := hid (hMq.out.below z0.ok)
                  have hLz := hid (hLq.out.below z0.ok)
                  have hAz := hid (hAq.out.below z0.ok)
                  have hPz := hid (hPq.out.below z0.ok)
                  have hBz := hBq.trans (z0.ok.mono hBq.size)
                  clear hF hSq hMq hLq hAq hPq hBq hFl hLl HFAR hGq
                  generalize z0.val = W8 at *
                  clear hszz z0
                  obtain ⟨-, m0, m1', m2', m3, f0, f1, f2, f3⟩ := hMz.out
                  obtain ⟨-, k0, k1, -, -⟩ := hFz.out
                  go_upto_region 32 with fail
                  have hK := hid (kp_set hSz.out hPz.out hLz.out hMz.out hFz.out hBz (by omega) (by omega) (by omega) (by omega) (by omega) (by omega) (px + rx) (py + ry))
                  have hA9 := hid (hAz.out.kept (w' := set4 W8 w3.heap.size (px + rx) (py + ry) rx ry) (by rw [set4_sz]; exact Nat.le_refl _) (fun _ => set4_heap (by omega) _ _ _ _))
                  clear hSz hPz hLz hMz hFz hBz hAz m0 m1' m2' m3 f0 f1 f2 f3 k0 k1 hcmp hSS0 hSS1
                  have hwx : w3.heap.size < W6.heap.size := h3w6
                  go_loopw [16] (fun s16 wq => ∃ (k : Nat) (X' Y' : Nat → Int), s16 = .int .i64 k ∧ k ≤ lw ∧ Hid (At wq g 0 lw X' Y') ∧ Hid (Hlf S B H M lw k cc px py rx ry X' Y') ∧ Hid (∀ i, i < lw → (i < k → Bnd ((t : Int) + 1) (X' i) (Y' i)) ∧ (k ≤ i → Bnd (t : Int) (X' i) (Y' i))) ∧ Hid (Kp w wq sb pb mb w1.heap.size w3.heap.size gu S A B H M t md' (px + rx) (py + ry) rx ry t lw (3 * t + lw) X Y)) (fun s16 _ => lw - (intOf s16).toNat)
                  case atStart => exact ⟨0, X, Y, rfl, Nat.zero_le _, hA9, HH0, hid (fun i hi => ⟨fun h => absurd h (by omega), fun _ => hX.out i hi⟩), hK⟩
                  case round =>
                    clear hK hA9 HH0
                    obtain ⟨k, X', Y', rfl, hk, hA, hH, hbd, hK⟩ := hrel
                    by_cases hkT : k < lw
                    · obtain rfl := hag (by omega)
                      have hgu := hgg.out (by omega)
                      have hkI : (k : Int) < (lw : Int) := by omega
                      have hkI0 : (0 : Int) ≤ (k : Int) := by omega
                      obtain ⟨bw, ow, rfl, hbw, hcell⟩ := HWK.out (by omega)
                      obtain ⟨-, -, x2, hml, hwa⟩ := hcell k hkT
                      have m60 := HN60.out k hkT
                      have HWM := hid hwa
                      have z2 : wr.cell? ⟨bw, ow + k * 3 + 2, none⟩ = some (.slice (MA k) (MN k) (MC k)) := (hK.out.b.cell hbw).trans x2
                      clear hcell x2 hwa hml
                      have hAl := hA.out.lt (by omega)
                      have hbx := (hbd.out k hkT).2 (Nat.le_refl _)
                      have hbr := hK.out.b.size
                      have hKf := hK.out.f.lt
                      go_upto_if 150 with fail
                      go_cut [] (fun wq => ∃ dx dy : Int, Hid (At wq g 0 lw (updN X' k (X' k + dx)) (updN Y' k (Y' k + dy))) ∧ Hid (sqr dx dy ≤ H * H) ∧ Hid (wr.grownBy wq (some g)))
                      case first =>
                        by_cases htm : t < MN k
                        · have htmI : (t : Int) < (MN k : Int) := by omega
                          obtain ⟨bm, om, em, hbm, hcm⟩ := HWM.out (by omega)
                          rw [em] at z2
                          obtain ⟨v0, v1⟩ := hcm t htm
                          have v2 := (hK.out.b.cell hbm).trans v0
                          have v3 := (hK.out.b.cell hbm).trans v1
                          clear v0 v1 hcm
                          generalize MX k t = dx at *
                          generalize MY k t = dy at *
                          go_upto_region 36 with fail
                          have hbd1 : Below wr.heap.size wr (wr.alloc (.cells #[.int .i64 dx, .int .i64 dy] 35)) := (Below.refl _ _).alloc (Nat.le_refl _) _
                          have HFD := hid (Fb.new wr dx dy)
                          have hAd := hid (hA.out.below hbd1)
                          have hKd := hid (hK.out.below hbd1)
                          have hGd : Hid (wr.grownBy (wr.alloc (.cells #[.int .i64 dx, .int .i64 dy] 35)) (some g)) := hid (galloc (grefl _) _)
                          have hszd : (wr.alloc (.cells #[.int .i64 dx, .int .i64 dy] 35)).heap.size = wr.heap.size + 1 := szA
                          clear hbd1 v2 v3 z2
                          generalize (wr.alloc (.cells #[.int .i64 dx, .int .i64 dy] 35)) = wd at *
                          have HNB := hid (fun w => near_any dx dy w)
                          have hlD : ∀ (z : Later wd) (o : Nat), z.val.cell? ⟨wr.heap.size, o, none⟩ = wd.cell? ⟨wr.heap.size, o, none⟩ := fun z o => z.cell (by omega)
                          obtain ⟨-, d0, d1, -, -⟩ := HFD.out
                          cases e1 : nearB dx dy with
                          | false =>
                            rw [e1] at HNB
                            clear e1
                            refine wp_region_later (Below.refl _ _) (by kernel_rfl) (by kernel_rfl) ?_
                            repeat (go_big_quiet_step ((go_at_call 8; exact calls_later (HNB.out _))))
                            refine wpQuiet_nil ?_
                            intro _ hw'
                            obtain ⟨z1, hw''⟩ := hw'
                            subst hw''
                            have hbz := hKd.out.b.trans (z1.ok.mono hKd.out.b.size)
                            clear hlD
                            go_wp2_with (first | (go_at_call 6; (with_reducible refine (awake_any _).mono ?_); rintro en w5 ⟨rfl, hb5⟩))
                            go_ret
                            exact ⟨rfl, hbz.trans (hb5.mono hbz.size)⟩
                          | true =>
                            rw [e1] at HNB
                            obtain ⟨n1', n2', n3', n4'⟩ := nearB_true e1
                            clear e1
                            have HFAR := hid (fun w => far_any dx dy 0 0 (by omega) (by omega) (by omega) (by omega) (by omega) (by omega) (by omega) (by omega) w)
                            simp only [Int.sub_zero] at HFAR
                            have hHH0 := sq_self_nonneg H
                            have hHH1 := sq_le (a := H) (b := 59) (by omega) q2
                            have hKl := hKd.out.l.lt
                            have hl2 : ∀ (z : Later wd) (o : Nat), z.val.cell? ⟨w1.heap.size, o, none⟩ = wd.cell? ⟨w1.heap.size, o, none⟩ := fun z o => z.cell hKl
                            obtain ⟨-, -, -, -, t3, -⟩ := hKd.out.l
                            by_cases hd : sqr dx dy ≤ H * H
                            · have Hd := hid hd
                              obtain ⟨j1, j2, j3, j4⟩ := abs_of_sqr (x := dx) (y := dy) (S := H) (by omega) hd
                              generalize sqr dx dy = QQ at HFAR hd
                              refine wp_region_later (Below.refl _ _) (by kernel_rfl) (by kernel_rfl) ?_
                              repeat (go_big_quiet_step ((first | (go_at_call 8; exact calls_later (HNB.out _)) | (go_at_call 12; exact calls_later (HFAR.out _)))))
                              refine wpQuiet_nil ?_
                              intro _ hw'
                              obtain ⟨z1, hw''⟩ := hw'
                              subst hw''
                              clear hlD hl2 t3 d0 d1
                              have hs1z := z1.ok.size
                              have HFy := hid (HFD.out.below z1.ok)
                              have hAy := hid (hAd.out.below z1.ok)
                              have hGy := hid (gbelow hGd.out z1.ok)
                              clear HFD hAd hKd hKl hGd HNB
                              generalize z1.val = wy at *
                              go_upto_region 38 with fail
                              have hlA : ∀ (z : Later wy) (o : Nat), z.val.cell? ⟨g, o, none⟩ = wy.cell? ⟨g, o, none⟩ := fun z o => z.cell (by omega)
                              have hfA : ∀ (z : Later wy) (o : Nat), z.val.frozen? ⟨g, o, none⟩ = wy.frozen? ⟨g, o, none⟩ := fun z o => z.frz (by omega)
                              have hlD : ∀ (z : Later wy) (o : Nat), z.val.cell? ⟨wr.heap.size, o, none⟩ = wy.cell? ⟨wr.heap.size, o, none⟩ := fun z o => z.cell (by omega)
                              obtain ⟨-, d0, d1, -, -⟩ := HFy.out
                              obtain ⟨c0, c1, f0, f1⟩ := hAy.out.c k hkT
                              rw [Nat.zero_add] at c0 c1 f0 f1
                              unfold Bnd at hbx
                              refine wp_region_later_tail 20 (Below.refl _ _) (by kernel_rfl) (by kernel_rfl) ?_
                              simp only [List.take_succ_cons, List.take_zero, List.drop_succ_cons, List.drop_zero]
                              repeat (go_big_quiet_step (fail))
                              refine wpQuiet_nil ?_
                              intro _ hw'
                              obtain ⟨z2, hw''⟩ := hw'
                              subst hw''
                              have hAv := (hAy.out.below z2.ok).set hkT (X' k + dx) (Y' k + dy)
                              have hGv := gset (g := g) (gset (g := g) (gbelow hGy.out z2.ok) (p := ⟨g, 0 + k * 2, none⟩) (Or.inr rfl) (.int .i64 (X' k + dx))) (p := ⟨g, 0 + k * 2 + 1, none⟩) (Or.inr rfl) (.int .i64 (Y' k + dy))
                              rw [Nat.zero_add] at hAv hGv
                              go_wp2_with fail
                              go_meet
                              case rel => exact ⟨dx, dy, hid hAv, Hd, hid hGv⟩
                            · have hd' : H * H < sqr dx dy := by omega
                              generalize sqr dx dy = QQ at HFAR hd hd'
                              refine wp_region_later (Below.refl _ _) (by kernel_rfl) (by kernel_rfl) ?_
                              repeat (go_big_quiet_step ((first | (go_at_call 8; exact calls_later (HNB.out _)) | (go_at_call 12; exact calls_later (HFAR.out _)))))
                              refine wpQuiet_nil ?_
                              intro _ hw'
                              obtain ⟨z1, hw''⟩ := hw'
                              subst hw''
                              have hbz := hKd.out.b.trans (z1.ok.mono hKd.out.b.size)
                              clear hlD hl2
                              go_wp2_with (first | (go_at_call 6; (with_reducible refine (awake_any _).mono ?_); rintro en w5 ⟨rfl, hb5⟩))
                              go_ret
                              exact ⟨rfl, hbz.trans (hb5.mono hbz.size)⟩
                        · have htmI : (MN k : Int) ≤ (t : Int) := by omega
                          go_wp2_with fail
                          go_meet
                          case rel => exact ⟨0, 0, hid (by rw [Int.add_zero, Int.add_zero, updN_id, updN_id]; exact hA.out), hid (by have := sq_self_nonneg H; have e : sqr 0 0 = 0 := (by decide); omega), hid (grefl _)⟩
                      case rest =>
                        obtain ⟨dx, dy, hA7, hd7, hG7⟩ := hcut
                        have hK7 := hid (hK.out.grown hG7.out (by omega) (by omega) (by omega) (by omega) (by omega) (by omega) (by omega))
                        have HH7 := hid (hlf_step b1 q1 m1 hkT hd7.out hH.out)
                        obtain ⟨j1, j2, j3, j4⟩ := abs_of_sqr (x := dx) (y := dy) (S := H) (by omega) hd7.out
                        have HB7 := hid (bnd_upd hkT hbd.out (dx := dx) (dy := dy) (by omega) (by omega) (by omega) (by omega))
                        clear z2 hbx hA hH hbd hK hd7
                        have hs7 := hG7.out.size
                        clear hG7
                        generalize updN X' k (X' k + dx) = X2 at *
                        generalize updN Y' k (Y' k + dy) = Y2 at *
                        have hbx := (HB7.out k hkT).1 (by omega)
                        unfold Bnd at hbx
                        go_upto_region 39 with fail
                        have hFl := hK7.out.f.lt
                        have hl1 : ∀ (z : Later wc) (o : Nat), z.val.cell? ⟨gu, o, none⟩ = wc.cell? ⟨gu, o, none⟩ := fun z o => z.cell hFl
                        obtain ⟨-, k0, k1, -, -⟩ := hK7.out.f
                        by_cases hr : rx = 0 ∧ ry = 0
                        · have qn : ∀ w, (binOp .neq 35 (.agg #[.int .i64 rx, .int .i64 ry]) (.agg #[.int .i64 0, .int .i64 0])).run Try.prog w = .ok (.bool false) w := fun w => by rw [neq_pt, hr.1, hr.2]; rfl
                          refine wp_region_later (Below.refl _ _) (by kernel_rfl) (by kernel_rfl) ?_
                          repeat (go_big_quiet_step (fail))
                          refine wpQuiet_nil ?_
                          intro _ hw'
                          obtain ⟨z3, hw''⟩ := hw'
                          subst hw''
                          have hA8 := hid (hA7.out.below z3.ok)
                          have hK8 := hid (hK7.out.below z3.ok)
                          clear hl1 qn k0 k1
                          go_wp2_with fail
                          go_roundw
                          case rel => exact ⟨k + 1, X2, Y2, by go_num, by omega, hA8, HH7, HB7, hK8⟩
                          case measure => simp [intOf]; omega
                        · have qn : ∀ w, (binOp .neq 35 (.agg #[.int .i64 rx, .int .i64 ry]) (.agg #[.int .i64 0, .int .i64 0])).run Try.prog w = .ok (.bool true) w := fun w => by
                            rw [neq_pt]
                            by_cases e1 : rx = 0
                            · by_cases e2 : ry = 0
                              · exact absurd ⟨e1, e2⟩ hr
                              · simp [e2]
                            · simp [e1]
                          have HFAR := hid (fun w => far_any (px + rx) (py + ry) (X2 k) (Y2 k) (by omega) (by omega) (by omega) (by omega) (by omega) (by omega) (by omega) (by omega) w)
                          have hcmp := hlf_safe b1 q1 m1 hkT hr HH7.out
                          generalize sqr (px + rx - X2 k) (py + ry - Y2 k) = QQ at HFAR hcmp
                          have hMM0 := sq_self_nonneg M
                          have hMM1 := sq_le (a := M) (b := 1499) (by omega) m2
                          have hAl2 := hA7.out.lt (by omega)
                          have hMl := hK7.out.m.lt
                          have hLl := hK7.out.l.lt
                          have hl2 : ∀ (z : Later wc) (o : Nat), z.val.cell? ⟨g, o, none⟩ = wc.cell? ⟨g, o, none⟩ := fun z o => z.cell hAl2
                          have hl3 : ∀ (z : Later wc) (o : Nat), z.val.cell? ⟨w3.heap.size, o, none⟩ = wc.cell? ⟨w3.heap.size, o, none⟩ := fun z o => z.cell hMl
                          have hl4' : ∀ (z : Later wc) (o : Nat), z.val.cell? ⟨w1.heap.size, o, none⟩ = wc.cell? ⟨w1.heap.size, o, none⟩ := fun z o => z.cell hLl
                          obtain ⟨c0, c1, -, -⟩ := hA7.out.c k hkT
                          rw [Nat.zero_add] at c0 c1
                          obtain ⟨-, m0, m1', -, -, -, -, -, -⟩ := hK7.out.m
                          obtain ⟨-, -, -, -, -, t4⟩ := hK7.out.l
                          refine wp_region_later (Below.refl _ _) (by kernel_rfl) (by kernel_rfl) ?_
                          repeat (go_big_quiet_step ((go_at_call 12; exact calls_later (HFAR.out _))))
                          refine wpQuiet_nil ?_
                          intro _ hw'
                          obtain ⟨z3, hw''⟩ := hw'
                          subst hw''
                          have hA8 := hid (hA7.out.below z3.ok)
                          have hK8 := hid (hK7.out.below z3.ok)
                          clear hl1 hl2 hl3 hl4' qn k0 k1 c0 c1 m0 m1' t4
                          go_wp2_with fail
                          go_roundw
                          case rel => exact ⟨k + 1, X2, Y2, by go_num, by omega, hA8, HH7, HB7, hK8⟩
                          case measure => simp [intOf]; omega
                    · obtain rfl : lw = k := by omega
                      have hml := hK.out.m.lt
                      have hbb := hK.out.b
                      go_wp2_with fail
                      go_roundw
                      case rel =>
                        refine ⟨t + 1, px + rx, py + ry, rx, ry, t, md', X', Y', by go_num, by omega, hid hK.out.s, hDq, by omega, by omega, by omega, ?_, hA, hid hK.out.l, hid hK.out.m, by omega, by omega, by omega, by omega, hq, hid (hlf_inv hH.out), ?_, hml, hbb⟩
                        · exact hid (by
                            have h := (hK.out.p.next X' Y').mono (C' := 3 * (t + 1)) (by omega)
                            rw [show ((t + 1 : Nat) : Int) = (t : Int) + 1 from by omega]
                            exact h)
                        · exact hid (fun i hi => by
                            rw [show ((t + 1 : Nat) : Int) = (t : Int) + 1 from by omega]
                            exact (hbd.out i hi).1 hi)
                      case measure => simp [intOf]; omega
        · obtain rfl : len = t := by omega
          go_wp2_with (first
            | (go_at_call 6; (with_reducible refine (awake_any _).mono ?_); rintro en w5 ⟨rfl, hb5⟩))
          go_ret
          exact ⟨rfl, hb.trans (hb5.mono hb.size)⟩
end Go.Proofs.Ytfcianhmfpenhaa
