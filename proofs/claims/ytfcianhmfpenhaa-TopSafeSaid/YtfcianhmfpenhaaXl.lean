/- The law TopStops, walked: it returns true. -/
import Derived.Test.YtfcianhmfpenhaaXk
import Derived.Deep.RegionHeld3
import Derived.Deep.Cut
namespace Go.Proofs.Ytfcianhmfpenhaa
open Go.RowKit Go.Maps
set_option linter.unusedVariables false
set_option linter.unusedSimpArgs false
/-- points in memory -/
def Wants (w : World) (a : Option Addr) (len : Nat) (X Y : Nat → Int) : Prop := 0 < len → ∃ b off, a = some ⟨b, off, none⟩ ∧ b < w.heap.size ∧ ∀ i, i < len → w.cell? ⟨b, off + i * 2, none⟩ = some (.int .i64 (X i)) ∧ w.cell? ⟨b, off + i * 2 + 1, none⟩ = some (.int .i64 (Y i))
theorem lim_chk {a b c d e : Int} : 1 ≤ 1 + a % 400 ∧ 1 + a % 400 ≤ 400 ∧ 1 ≤ 1 + b % (1 + a % 400) ∧ 1 + b % (1 + a % 400) ≤ 1 + a % 400 ∧ 1 ≤ 1 + c % (1 + a % 400) ∧ 1 + c % (1 + a % 400) ≤ 1 + a % 400 ∧ 0 ≤ d % 60 ∧ d % 60 ≤ 59 ∧ 0 ≤ e % 1500 ∧ e % 1500 ≤ 1499 := by
  obtain ⟨q1, q2⟩ := mod_rng a (m := 400) (by omega)
  obtain ⟨q3, q4⟩ := mod_rng b (m := 1 + a % 400) (by omega)
  obtain ⟨q5, q6⟩ := mod_rng c (m := 1 + a % 400) (by omega)
  obtain ⟨q7, q8⟩ := mod_rng d (m := 60) (by omega)
  obtain ⟨q9, q10⟩ := mod_rng e (m := 1500) (by omega)
  omega
theorem chk_of {S A B H M : Int} (s1 : 1 ≤ S) (s2 : S ≤ 400) (a1 : 1 ≤ A) (a2 : A ≤ S) (b1 : 1 ≤ B) (b2 : B ≤ S) (h1 : 0 ≤ H) (h2 : H ≤ 59) (m1 : 0 ≤ M) (m2 : M ≤ 1499) : chk S A B H M = true := by
  unfold chk
  rw [inB_mk (by omega) (by omega), inB_mk a1 a2, inB_mk b1 b2, inB_mk h1 (by omega), inB_mk m1 (by omega)]
  rfl
set_option maxRecDepth 100000 in
set_option maxHeartbeats 16000000 in
theorem stops_long (a b c d e : Int) (h1 : 0 ≤ a) (h2 : a ≤ 65535) (h3 : 0 ≤ b) (h4 : b ≤ 65535) (h5 : 0 ≤ c) (h6 : c ≤ 65535) (h7 : 0 ≤ d) (h8 : d ≤ 65535) (h9 : 0 ≤ e) (h10 : e ≤ 65535) (ga : Option Addr) (len cap : Nat) (fx fy : Int) (hl : len ≤ maxLen) (hlen : 60 < len) (w : World) :
    Calls Try.prog 4 #[.agg #[.int .u16 a, .int .u16 b, .int .u16 c, .int .u16 d, .int .u16 e], .slice ga len cap, pt fx fy] w fun en w' => en = .returned (.bool true) ∧ Below w.heap.size w w' := by
  have HL := hid (fun w => slim_any a b c d e h1 h2 h3 h4 h5 h6 h7 h8 h9 h10 w)
  have hlI : (60 : Int) < (len : Int) := by omega
  have hM : maxLen ≤ 9223372036854775807 := by decide
  generalize 1 + b % (1 + a % 400) = A at *
  generalize 1 + c % (1 + a % 400) = B at *
  generalize 1 + a % 400 = S at *
  generalize d % 60 = H at *
  generalize e % 1500 = M at *
  go_enter Try.func4, Try.ntmps4
  go_wp2_with (first
    | (go_at_call 5; (with_reducible refine (HL.out _).mono ?_); rintro en w1 ⟨rfl, hb1⟩)
    | (go_at_call 6; (with_reducible refine (awake_any _).mono ?_); rintro en w5 ⟨rfl, hb5⟩))
  go_ret
  exact ⟨rfl, (box2 hb1).trans ((below_box hb5).mono (by have := hb1.size; simp at this; omega))⟩
set_option maxRecDepth 100000 in
set_option maxHeartbeats 16000000 in
theorem stops_near (a b c d e : Int) (h1 : 0 ≤ a) (h2 : a ≤ 65535) (h3 : 0 ≤ b) (h4 : b ≤ 65535) (h5 : 0 ≤ c) (h6 : c ≤ 65535) (h7 : 0 ≤ d) (h8 : d ≤ 65535) (h9 : 0 ≤ e) (h10 : e ≤ 65535) (ga : Option Addr) (len cap : Nat) (fx fy : Int) (hlen : len ≤ 60) (hn : nearB fx fy = false) (w : World) :
    Calls Try.prog 4 #[.agg #[.int .u16 a, .int .u16 b, .int .u16 c, .int .u16 d, .int .u16 e], .slice ga len cap, pt fx fy] w fun en w' => en = .returned (.bool true) ∧ Below w.heap.size w w' := by
  have HL := hid (fun w => slim_any a b c d e h1 h2 h3 h4 h5 h6 h7 h8 h9 h10 w)
  have HNR := hid (fun w => by have := near_any fx fy w; rw [hn] at this; exact this)
  have hlI : (len : Int) ≤ 60 := by omega
  generalize 1 + b % (1 + a % 400) = A at *
  generalize 1 + c % (1 + a % 400) = B at *
  generalize 1 + a % 400 = S at *
  generalize d % 60 = H at *
  generalize e % 1500 = M at *
  go_enter Try.func4, Try.ntmps4
  go_wp2_with (first
    | (go_at_call 5; (with_reducible refine (HL.out _).mono ?_); rintro en w1 ⟨rfl, hb1⟩; obtain ⟨hc1, hf1⟩ := bcell hb1; have hz1 : w.heap.size + 1 < w1.heap.size := (by have := hb1.size; simp at this; omega))
    | (go_at_call 8; (with_reducible refine (HNR.out _).mono ?_); rintro en w2 ⟨rfl, hb2⟩)
    | (go_at_call 6; (with_reducible refine (awake_any _).mono ?_); rintro en w5 ⟨rfl, hb5⟩))
  go_ret
  exact ⟨rfl, (box2 hb1).trans (((below_box hb2).mono (by omega)).trans (hb5.mono (by have := hb2.size; simp at this; omega)))⟩
theorem Lm.new (w : World) (S A B H M : Int) : Lm (w.alloc (.cells #[.int .i64 S, .int .i64 A, .int .i64 B, .int .i64 H, .int .i64 M] 27)) w.heap.size S A B H M := by
  constructor <;> first | (go_simp <;> simp; done) | simp
theorem Mm.new (w : World) (a b c d : Int) : Mm (w.alloc (.cells #[.int .i64 a, .int .i64 b, .int .i64 c, .int .i64 d] 37)) w.heap.size a b c d := by
  constructor <;> first | (go_simp <;> simp; done) | simp
theorem Lm.below {w w' : World} {g : Nat} {S A B H M : Int} (h : Lm w g S A B H M) (hb : Below w.heap.size w w') : Lm w' g S A B H M := h.keep hb.size (hb.block g h.lt)
theorem Mm.below {w w' : World} {g : Nat} {px py vx vy : Int} (h : Mm w g px py vx vy) (hb : Below w.heap.size w w') : Mm w' g px py vx vy := h.keep hb.size (hb.block g h.lt)
theorem Lm.grown {w w' : World} {g s : Nat} {S A B H M : Int} (h : Lm w g S A B H M) (hg : w.grownBy w' (some s)) (hne : g ≠ s) : Lm w' g S A B H M := h.keep hg.size (hg.block g h.lt (fun e => hne (by simpa using e)))
theorem Mm.grown {w w' : World} {g s : Nat} {px py vx vy : Int} (h : Mm w g px py vx vy) (hg : w.grownBy w' (some s)) (hne : g ≠ s) : Mm w' g px py vx vy := h.keep hg.size (hg.block g h.lt (fun e => hne (by simpa using e)))
theorem wants_below {w w' : World} {a : Option Addr} {len : Nat} {X Y : Nat → Int} (h : Wants w a len X Y) (hb : Below w.heap.size w w') : Wants w' a len X Y := fun hp => by
  obtain ⟨b, off, e, hlt, hc⟩ := h hp
  exact ⟨b, off, e, Nat.lt_of_lt_of_le hlt hb.size, fun i hi => ⟨(hb.cell hlt).trans (hc i hi).1, (hb.cell hlt).trans (hc i hi).2⟩⟩
set_option maxRecDepth 100000 in
set_option maxHeartbeats 16000000 in
theorem stops_walk (a b c d e : Int) (h1 : 0 ≤ a) (h2 : a ≤ 65535) (h3 : 0 ≤ b) (h4 : b ≤ 65535) (h5 : 0 ≤ c) (h6 : c ≤ 65535) (h7 : 0 ≤ d) (h8 : d ≤ 65535) (h9 : 0 ≤ e) (h10 : e ≤ 65535) (ga : Option Addr) (len cap : Nat) (X Y : Nat → Int) (fx fy : Int) (hlen : len ≤ 60) (hn : nearB fx fy = true) (w : World) (ha : Hid (Wants w ga len X Y)) :
    Calls Try.prog 4 #[.agg #[.int .u16 a, .int .u16 b, .int .u16 c, .int .u16 d, .int .u16 e], .slice ga len cap, pt fx fy] w fun en w' => en = .returned (.bool true) ∧ Below w.heap.size w w' := by
  have HL := hid (fun w => slim_any a b c d e h1 h2 h3 h4 h5 h6 h7 h8 h9 h10 w)
  have HNR := hid (fun w => by have := near_any fx fy w; rw [hn] at this; exact this)
  obtain ⟨f1, f2, f3, f4⟩ := nearB_true hn
  have hlI : (len : Int) ≤ 60 := by omega
  obtain ⟨s1, s2, a1, a2, b1, b2, q1, q2, m1, m2⟩ := lim_chk (a := a) (b := b) (c := c) (d := d) (e := e)
  generalize 1 + b % (1 + a % 400) = A at *
  generalize 1 + c % (1 + a % 400) = B at *
  generalize 1 + a % 400 = S at *
  generalize d % 60 = H at *
  generalize e % 1500 = M at *
  have HCK := hid (chk_of s1 s2 a1 a2 b1 b2 q1 q2 m1 m2)
  have HN := hid (fun w => new_ok S A B H M 500 HCK.out (by omega) (by omega) w)
  clear hn h1 h2 h3 h4 h5 h6 h7 h8 h9 h10 a1 a2 q1 q2 m1 m2
  go_enter Try.func4, Try.ntmps4
  go_upto_region 4 with (first
    | (go_at_call 5; (with_reducible refine (HL.out _).mono ?_); rintro en w1 ⟨rfl, hb1⟩; obtain ⟨hc1, hf1⟩ := bcell hb1; have hz1 : w.heap.size + 1 < w1.heap.size := (by have := hb1.size; simp at this; omega))
    | (go_at_call 8; (with_reducible refine (HNR.out _).mono ?_); rintro en w2 ⟨rfl, hb2⟩))
  have hL2 : Hid (Lm w2 w1.heap.size S A B H M) := hid ((Lm.new w1 S A B H M).below hb2)
  have hX0 := Fb.new (w.alloc (.cells #[.int .u16 a, .int .u16 b, .int .u16 c, .int .u16 d, .int .u16 e] 23)) fx fy
  rw [szA] at hX0
  have hX2 : Hid (Fb w2 (w.heap.size + 1) fx fy) := hid (((hX0.below hb1).below ((Below.refl _ _).alloc (Nat.le_refl _) _)).below hb2)
  clear hX0
  have hs2 := hb2.size
  rw [szA] at hs2
  have hB2 : Below w.heap.size w w2 := (box2 hb1).trans ((below_box hb2).mono (by omega))
  clear hc1 hf1 hb1 hb2 HL HNR
  obtain ⟨_, t0, t1, t2, t3, t4⟩ := hL2.out
  go_upto_region 9 with (first
    | (go_at_call 7; (with_reducible refine (HN.out _).mono ?_); rintro en w3 ⟨sb, pb, mb, rfl, hS3, hP3, l1, l2, l3, n1, n2, n3, hb3⟩))
  have hs3 := hb3.size
  have HS := hid (hS3.below ((Below.refl _ _).alloc (Nat.le_refl _) (.cells #[.int .i64 0, .int .i64 0, .int .i64 0, .int .i64 0] 37)))
  have HP := hid (hP3.below ((Below.refl _ _).alloc (Nat.le_refl _) (.cells #[.int .i64 0, .int .i64 0, .int .i64 0, .int .i64 0] 37)))
  have HLm := hid ((hL2.out.below hb3).below ((Below.refl _ _).alloc (Nat.le_refl _) (.cells #[.int .i64 0, .int .i64 0, .int .i64 0, .int .i64 0] 37)))
  have HX := hid ((hX2.out.below hb3).below ((Below.refl _ _).alloc (Nat.le_refl _) (.cells #[.int .i64 0, .int .i64 0, .int .i64 0, .int .i64 0] 37)))
  have HM0 := hid (Mm.new w3 0 0 0 0)
  have hB := (hB2.trans (hb3.mono (by omega))).alloc (by omega) (.cells #[.int .i64 0, .int .i64 0, .int .i64 0, .int .i64 0] 37)
  have hl3 := hP3.lt
  have hl4 := hP3.mlt
  have hl5 := hS3.lt
  clear hS3 hP3 hb3 hB2 hL2 hX2 HN t0 t1 t2 t3 t4
  generalize hW : w3.alloc (.cells #[.int .i64 0, .int .i64 0, .int .i64 0, .int .i64 0] 37) = W at *
  clear hW
  go_loopw [11] (fun s11 wr => ∃ (k : Nat) (px py vx vy md : Int), s11 = .int .i64 k ∧ k ≤ len ∧ Hid (Sup wr sb pb S A B H M 500 0 md) ∧ Hid (Per wr pb mb H 500 0 (fun _ => none)) ∧ Hid (demB md = false) ∧ Hid (Lm wr w1.heap.size S A B H M) ∧ Hid (Fb wr (w.heap.size + 1) fx fy) ∧ Hid (Mm wr w3.heap.size px py vx vy) ∧ -(400 * (k : Int)) ≤ px ∧ px ≤ 400 * k ∧ -(400 * (k : Int)) ≤ py ∧ py ≤ 400 * k ∧ Hid (sqr vx vy ≤ S * S) ∧ Below w.heap.size w wr) (fun s11 _ => len - (intOf s11).toNat)
  case atStart => exact ⟨0, 0, 0, 0, 0, 1, rfl, Nat.zero_le _, HS, HP, hid (by decide), HLm, HX, HM0, by omega, by omega, by omega, by omega, hid (by have := sq_self_nonneg S; have e : sqr 0 0 = 0 := (by decide); omega), hB⟩
  case round =>
    obtain ⟨k, px, py, vx, vy, md, rfl, hk, hS, hP, hD, hLm, hX, hMm, p1, p2, p3, p4, hv, hb⟩ := hrel
    have hsr := hb.size
    by_cases hkT : k < len
    · obtain ⟨bw, off, rfl, hbw, hcell⟩ := ha.out (by omega)
      obtain ⟨x0, x1⟩ := hcell k hkT
      clear hcell
      have hkI : (k : Int) < (len : Int) := by omega
      have hkI0 : (0 : Int) ≤ (k : Int) := by omega
      have y0 : wr.cell? ⟨bw, off + k * 2, none⟩ = some (.int .i64 (X k)) := (hb.cell hbw).trans x0
      have y1 : wr.cell? ⟨bw, off + k * 2 + 1, none⟩ = some (.int .i64 (Y k)) := (hb.cell hbw).trans x1
      clear x0 x1
      cases e1 : nearB (X k) (Y k) with
      | false =>
        have HNR := hid (fun w => by have := near_any (X k) (Y k) w; rw [e1] at this; exact this)
        clear e1
        go_wp2_with (first
          | (go_at_call 8; (with_reducible refine (HNR.out _).mono ?_); rintro en w4 ⟨rfl, hb4⟩)
          | (go_at_call 6; (with_reducible refine (awake_any _).mono ?_); rintro en w5 ⟨rfl, hb5⟩))
        go_ret
        exact ⟨rfl, (hb.trans (hb4.mono hsr)).trans (hb5.mono (by have := hb4.size; omega))⟩
      | true =>
        have HNR := hid (fun w => by have := near_any (X k) (Y k) w; rw [e1] at this; exact this)
        clear e1
        go_upto_region 13 with (first
          | (go_at_call 8; (with_reducible refine (HNR.out _).mono ?_); rintro en w4 ⟨rfl, hb4⟩))
        have hs4 := hb4.size
        have hS4 := hid (hS.out.below hb4)
        have hP4 := hid (hP.out.below hb4)
        have hLm4 := hid (hLm.out.below hb4)
        have hX4 := hid (hX.out.below hb4)
        have hMm4 := hid (hMm.out.below hb4)
        have hB4 := hb.trans (hb4.mono hsr)
        have y0 : w4.cell? ⟨bw, off + k * 2, none⟩ = some (.int .i64 (X k)) := (hb4.cell (by show bw < wr.heap.size; omega)).trans y0
        have y1 : w4.cell? ⟨bw, off + k * 2 + 1, none⟩ = some (.int .i64 (Y k)) := (hb4.cell (by show bw < wr.heap.size; omega)).trans y1
        have hbw4 : bw < w4.heap.size := by omega
        have hbs : bw ≠ sb := by omega
        have hlt4 := hS4.out.lt
        clear hb4 hS hP hLm hX hMm hb HNR
        have HV := hid (vld_of (px := px) (py := py) HCK.out (by omega) (by omega) (by omega) (by omega) hv.out)
        have HLIM := hid (fun (w' : World) (h : Below w4.heap.size w4 w') => limit_alone (wx := X k) (wy := Y k) (k : Int) px py vx vy (by omega) (by omega) (by omega) (by omega) (by omega) (by omega) HV.out hD.out w' (hid (hS4.out.below h)) (hid (hP4.out.below h)))
        go_cut [12] (fun s12 wq => ∃ (g : Nat) (rx ry md' : Int), s12 = .pointer (some ⟨g, 0, none⟩) ∧ Hid (Fb wq g rx ry) ∧ Hid (Sup wq sb pb S A B H M 500 0 md') ∧ Hid (demB md' = false) ∧ Hid (sqr rx ry ≤ S * S) ∧ w4.heap.size ≤ g ∧ Hid (w4.grownBy wq (some sb)))
        case first =>
          have HSS : Hid (∀ w', w4.grownBy w' (some sb) → w'.cell? ⟨w3.heap.size, 0, none⟩ = some (.int .i64 px) ∧ w'.cell? ⟨w3.heap.size, 1, none⟩ = some (.int .i64 py) ∧ w'.cell? ⟨w3.heap.size, 2, none⟩ = some (.int .i64 vx) ∧ w'.cell? ⟨w3.heap.size, 3, none⟩ = some (.int .i64 vy) ∧ w'.cell? ⟨bw, off + k * 2, none⟩ = some (.int .i64 (X k)) ∧ w'.cell? ⟨bw, off + k * 2 + 1, none⟩ = some (.int .i64 (Y k))) := hid (fun w' hg => by
            have hM' := hMm4.out.grown hg (by omega)
            exact ⟨hM'.c0, hM'.c1, hM'.c2, hM'.c3, (World.cell?_of_block (hg.block _ hbw4 (fun e => hbs (by simpa using e)))).trans y0, (World.cell?_of_block (hg.block _ hbw4 (fun e => hbs (by simpa using e)))).trans y1⟩)
          obtain ⟨m0, m1, m2, m3, -, -⟩ := HSS.out _ (grefl _)
          go_region_held3 (fun w' => w'.cell? ⟨w3.heap.size, 0, none⟩ = some (.int .i64 px) ∧ w'.cell? ⟨w3.heap.size, 1, none⟩ = some (.int .i64 py) ∧ w'.cell? ⟨w3.heap.size, 2, none⟩ = some (.int .i64 vx) ∧ w'.cell? ⟨w3.heap.size, 3, none⟩ = some (.int .i64 vy) ∧ w'.cell? ⟨bw, off + k * 2, none⟩ = some (.int .i64 (X k)) ∧ w'.cell? ⟨bw, off + k * 2 + 1, none⟩ = some (.int .i64 (Y k))) (first | (with_reducible refine HSS.out _ ?_; (repeat' (first | (with_reducible exact HG5.out) | (with_reducible exact grefl _) | (with_reducible refine gdrew ?_) | (with_reducible refine galloc ?_ _) | (with_reducible refine gset ?_ ?_ _) | (exact Or.inl (by dsimp only; omega)))); done) | go_keep)
            (first
              | (go_at_call 11; (with_reducible refine (HLIM.out _ (by (repeat' (first | (with_reducible exact Below.refl _ _) | (with_reducible refine Below.drew ?_) | (with_reducible refine Below.alloc ?_ ?_ _) | exact Nat.le_refl _ | (simp; done))))).mono ?_); rintro en w5 ⟨rx, ry, md', rfl, hS5, hD5, hg5, hq5⟩
                 have HG5 : Hid (w4.grownBy w5 (some sb)) := hid (gtrans (by (repeat' (first | (with_reducible exact grefl _) | (with_reducible refine gdrew ?_) | (with_reducible refine galloc ?_ _)))) hg5)
                 first | (have HF5 := hid (Fb.grown (Fb.new _ 0 0) hg5 (by first | omega | (simp; omega)))) | (have HF5 := hid (Fb.grown (Fb.drew (Fb.new _ 0 0)) hg5 (by first | omega | (simp; omega)))) | skip
                 try (obtain ⟨-, e0, e1, z0, z1⟩ := HF5.out)))
          · go_wp2_with fail
            go_meet
            case rel =>
              exact ⟨_, rx, ry, md', rfl, hid (Fb.new _ _ _), hid (hS5.below ((Below.refl _ _).alloc (Nat.le_refl _) _)), hid hD5, hid hq5, HG5.out.size, hid (galloc HG5.out _)⟩
          · go_wp2_with fail
            go_meet
            case rel =>
              exact ⟨_, rx, ry, md', rfl, hid (HF5.out.set _ _), hid ((hS5.far (by show sb ≠ w4.heap.size; omega) _).far (by show sb ≠ w4.heap.size; omega) _), hid hD5, hid hq5, Nat.le_refl _, hid (gset (gset HG5.out (Or.inl (Nat.le_refl _)) _) (Or.inl (Nat.le_refl _)) _)⟩
        case rest =>
          obtain ⟨g, rx, ry, md', rfl, hF, hSq, hDq, hq, hgl, hGq⟩ := hcut
          have hMq := hid (hMm4.out.grown hGq.out (by omega))
          obtain ⟨r1, r2, r3, r4⟩ := abs_of_sqr (x := rx) (y := ry) (S := S) (by omega) hq.out
          obtain ⟨-, m0, m1, m2, m3, z0, z1, z2, z3⟩ := hMq.out
          obtain ⟨-, k0, k1, -, -⟩ := hF.out
          clear y0 y1 HLIM HV
          go_wp2_with fail
          go_roundw
          case rel =>
            have hgs := hGq.out.size
            refine ⟨k + 1, px + rx, py + ry, rx, ry, md', by go_num, by omega, ?_, ?_, hDq, ?_, ?_, hid (hMq.out.set _ _ _ _), by omega, by omega, by omega, by omega, hq, ?_⟩
            · exact hid (hSq.out.kept (by rw [set4_sz]; exact hSq.out.lt) (set4_heap (by omega) _ _ _ _))
            · exact hid ((hP4.out.grown hGq.out (by omega) (by omega)).kept (by rw [set4_sz]; exact Nat.le_refl _) (set4_heap (by omega) _ _ _ _) (set4_heap (by omega) _ _ _ _))
            · exact hid ((hLm4.out.grown hGq.out (by omega)).keep (by rw [set4_sz]; exact Nat.le_refl _) (set4_heap (by omega) _ _ _ _))
            · exact hid ((hX4.out.grown hGq.out (by omega)).keep (by rw [set4_sz]; exact Nat.le_refl _) (set4_heap (by omega) _ _ _ _))
            · exact ((((bgr hB4 hGq.out (by omega) (by omega)).setCell (by show w.heap.size ≤ w3.heap.size; omega) _).setCell (by show w.heap.size ≤ w3.heap.size; omega) _).setCell (by show w.heap.size ≤ w3.heap.size; omega) _).setCell (by show w.heap.size ≤ w3.heap.size; omega) _
          case measure => simp [intOf]; omega
    · obtain rfl : k = len := by omega
      have hkI0 : (0 : Int) ≤ (k : Int) := by omega
      have HSTP := hid (stop_ok (t := (k : Int)) wr hS.out.c8 hS.out.f8 (by omega) (by omega) hD.out)
      have hS3 := hid (hS.out.mode 3)
      have hX3 := hid (hX.out.keep (w' := wr.setCell ⟨sb, 8, none⟩ (.int .i64 3)) (by rw [set_sz]; exact Nat.le_refl _) (Below.heap_setCell _ _ _ _ (by show w.heap.size + 1 ≠ sb; omega)))
      have hLm3 := hid (hLm.out.keep (w' := wr.setCell ⟨sb, 8, none⟩ (.int .i64 3)) (by rw [set_sz]; exact Nat.le_refl _) (Below.heap_setCell _ _ _ _ (by show w1.heap.size ≠ sb; omega)))
      have hMm3 := hid (hMm.out.keep (w' := wr.setCell ⟨sb, 8, none⟩ (.int .i64 3)) (by rw [set_sz]; exact Nat.le_refl _) (Below.heap_setCell _ _ _ _ (by show w3.heap.size ≠ sb; omega)))
      have hb3 := hb.setCell (p := ⟨sb, 8, none⟩) (by show w.heap.size ≤ sb; omega) (.int .i64 3)
      have hsz3 : (wr.setCell ⟨sb, 8, none⟩ (.int .i64 3)).heap.size = wr.heap.size := set_sz _ _ _
      have hltr := hS.out.lt
      generalize hWs : wr.setCell ⟨sb, 8, none⟩ (.int .i64 3) = W3 at *
      clear hWs hS hP hLm hX hMm hb hD
      go_upto_region 17 with (first | (go_at_call 13; (with_reducible refine HSTP.out.mono ?_); rintro en w5 ⟨rfl, rfl⟩))
      obtain ⟨-, t0, -, t2, -, -⟩ := hLm3.out
      have hne : ¬ B = 0 := by omega
      have hq0 : 0 ≤ S + B - 1 := by omega
      obtain ⟨g1, g2, -⟩ := most_spec s1 b1
      obtain ⟨Q, hQd⟩ : ∃ Q, Q = most S B := ⟨_, rfl⟩
      have hQ : (S + B - 1) / B = Q := hQd.symm
      rw [← hQd] at g1 g2
      have HQ := hid hQd
      clear hQd
      go_upto_region 18 with fail
      rw [hQ]
      clear hQ t0 t2 hne hq0 HSTP hLm3
      go_upto_region 19 with fail
      rename_i w5
      have hs5 := hb3.size
      have HV0 := hid (show sqr vx vy ≤ vb S B 0 * vb S B 0 from by rw [vb_zero (by omega)]; exact hv.out)
      go_loopw [14] (fun s14 wq => ∃ (j : Nat) (px py vx vy md : Int), s14 = .int .i64 j ∧ (j : Int) ≤ Q + 3 ∧ Hid (Sup wq sb pb S A B H M 500 0 md) ∧ Hid (demB md = true) ∧ Hid (Q < (j : Int) → md = 4) ∧ Hid (Fb wq (w.heap.size + 1) fx fy) ∧ Hid (Mm wq w3.heap.size px py vx vy) ∧ -(400 * (60 + (j : Int))) ≤ px ∧ px ≤ 400 * (60 + (j : Int)) ∧ -(400 * (60 + (j : Int))) ≤ py ∧ py ≤ 400 * (60 + (j : Int)) ∧ Hid (sqr vx vy ≤ vb S B j * vb S B j) ∧ Below w.heap.size w wq) (fun s14 _ => 500 - (intOf s14).toNat)
      case atStart => exact ⟨0, px, py, vx, vy, 3, rfl, by omega, hS3, hid (by decide), hid (fun h => by omega), hX3, hMm3, by omega, by omega, by omega, by omega, HV0, hb3⟩
      case round =>
        clear HV0 hX3 hMm3 hS3 hb3 hv p1 p2 p3 p4
        clear px py vx vy md
        obtain ⟨j, px, py, vx, vy, md, rfl, hj, hS, hD, h4, hX, hMm, p1, p2, p3, p4, hv, hb⟩ := hrel
        have hsr := hb.size
        have hltj := hS.out.lt
        have hvb0 := vb_nonneg S B j
        have hvb1 : vb S B j ≤ S := by unfold vb; have : 0 ≤ (j : Int) * B := Int.mul_nonneg (by omega) (by omega); omega
        have hvS : Hid (sqr vx vy ≤ S * S) := hid (Int.le_trans hv.out (sq_le hvb0 hvb1))
        have hjI0 : (0 : Int) ≤ (j : Int) := by omega
        by_cases hkT : (j : Int) < Q + 3
        · have HV := hid (vld_of (px := px) (py := py) HCK.out (by omega) (by omega) (by omega) (by omega) hvS.out)
          have HLIM0 := hid (limit_stop (wx := fx) (wy := fy) ((k : Int) + (j : Int)) px py vx vy (vb S B j) (by omega) (by omega) HV.out hD.out hvb0 (by omega) hv.out _ hS)
          have hj420 : (j : Int) < 420 := by omega
          have hdl3 := hMm.out.lt
          have HZ : Hid (Q ≤ (j : Int) → vb S B j = 0 ∧ vb S B (j + 1) = 0) := hid (fun h => ⟨vb_end s1 b1 (by rw [← HQ.out]; exact h), vb_end s1 b1 (by rw [← HQ.out]; omega)⟩)
          rw [vb_succ (by omega)] at HLIM0
          have hvb2 : vb S B (j + 1) ≤ S := by unfold vb; have : 0 ≤ ((j + 1 : Nat) : Int) * B := Int.mul_nonneg (by omega) (by omega); omega
          go_upto_region 21 with fail
          go_cut [15] (fun s15 wq => ∃ (g : Nat) (rx ry md' : Int), s15 = .pointer (some ⟨g, 0, none⟩) ∧ Hid (Fb wq g rx ry) ∧ Hid (Sup wq sb pb S A B H M 500 0 md') ∧ Hid (demB md' = true) ∧ Hid (sqr rx ry ≤ vb S B (j + 1) * vb S B (j + 1)) ∧ Hid (Q ≤ (j : Int) → md' = 4) ∧ Hid (Q ≤ (j : Int) → rx = 0 ∧ ry = 0) ∧ wr.heap.size ≤ g ∧ Hid (wr.grownBy wq (some sb)))
          case first =>
            obtain ⟨-, m0, m1, m2, m3, -⟩ := hMm.out
            obtain ⟨-, x0, x1, -, -⟩ := hX.out
            go_wp2_with (first
              | (go_at_call 11; (with_reducible refine HLIM0.out.mono ?_); rintro en w6 ⟨rx, ry, md', rfl, hS6, hD6, hg6, hq6, h7, h8⟩))
            go_meet
            case rel =>
              have hz : Q ≤ (j : Int) → rx = 0 ∧ ry = 0 := fun h => sq_le_zero (HZ.out h).2 hq6
              exact ⟨_, rx, ry, md', rfl, hid (Fb.new _ _ _), hid (hS6.below ((Below.refl _ _).alloc (Nat.le_refl _) _)), hid hD6, hid hq6, hid (fun h => h8 (hz h) (sq_le_zero (HZ.out h).1 hv.out)), hid hz, hg6.size, hid (galloc hg6 _)⟩
          case rest =>
            obtain ⟨g, rx, ry, md', rfl, hF, hSq, hDq, hq, h4q, hzq, hgl, hGq⟩ := hcut
            have hMq := hid (hMm.out.grown hGq.out (by omega))
            obtain ⟨r1, r2, r3, r4⟩ := abs_of_sqr (x := rx) (y := ry) (S := S) (by omega) (Int.le_trans hq.out (sq_le (vb_nonneg _ _ _) hvb2))
            by_cases hge : Q ≤ (j : Int)
            · obtain ⟨e1, e2⟩ := hzq.out hge
              subst e1 e2
              obtain ⟨-, m0, m1, m2, m3, z0, z1, z2, z3⟩ := hMq.out
              obtain ⟨-, k0, k1, -, -⟩ := hF.out
              have qn := neq_pt
              clear HLIM0 HV
              go_wp2_with fail
              go_roundw
              case rel =>
                refine ⟨j + 1, px, py, 0, 0, md', by go_num, by omega, ?_, hDq, hid (fun h => h4q.out (by omega)), ?_, ?_, by omega, by omega, by omega, by omega, hq, ?_⟩
                · exact hid (hSq.out.kept (by rw [set4_sz]; exact hSq.out.lt) (set4_heap (by omega) _ _ _ _))
                · exact hid ((hX.out.grown hGq.out (by omega)).keep (by rw [set4_sz]; exact Nat.le_refl _) (set4_heap (by omega) _ _ _ _))
                · exact hid (hMq.out.set _ _ _ _)
                · exact ((((bgr hb hGq.out (by omega) (by omega)).setCell (by show w.heap.size ≤ w3.heap.size; omega) _).setCell (by show w.heap.size ≤ w3.heap.size; omega) _).setCell (by show w.heap.size ≤ w3.heap.size; omega) _).setCell (by show w.heap.size ≤ w3.heap.size; omega) _
              case measure => simp [intOf]; omega
            · have hge' : (j : Int) < Q := by omega
              obtain ⟨-, m0, m1, m2, m3, z0, z1, z2, z3⟩ := hMq.out
              obtain ⟨-, k0, k1, -, -⟩ := hF.out
              clear HLIM0 HV
              go_wp2_with fail
              go_roundw
              case rel =>
                refine ⟨j + 1, px + rx, py + ry, rx, ry, md', by go_num, by omega, ?_, hDq, hid (fun h => h4q.out (by omega)), ?_, ?_, by omega, by omega, by omega, by omega, hq, ?_⟩
                · exact hid (hSq.out.kept (by rw [set4_sz]; exact hSq.out.lt) (set4_heap (by omega) _ _ _ _))
                · exact hid ((hX.out.grown hGq.out (by omega)).keep (by rw [set4_sz]; exact Nat.le_refl _) (set4_heap (by omega) _ _ _ _))
                · exact hid (hMq.out.set _ _ _ _)
                · exact ((((bgr hb hGq.out (by omega) (by omega)).setCell (by show w.heap.size ≤ w3.heap.size; omega) _).setCell (by show w.heap.size ≤ w3.heap.size; omega) _).setCell (by show w.heap.size ≤ w3.heap.size; omega) _).setCell (by show w.heap.size ≤ w3.heap.size; omega) _
              case measure => simp [intOf]; omega
        · have hjQ : (j : Int) = Q + 3 := by omega
          have hmd : md = 4 := h4.out (by omega)
          subst hmd
          have HM1 := hid (mode_any wr hS.out.c8)
          have HRS := hid (reset_ok (t := 900) wr hS.out.c8 hS.out.f8 (by omega) (by omega))
          have HS7 := hid (hS.out.mode 1)
          have HM2 := hid (mode_any _ HS7.out.c8)
          have hb7 := hb.setCell (p := ⟨sb, 8, none⟩) (by show w.heap.size ≤ sb; omega) (.int .i64 1)
          go_wp2_with (first
            | (go_at_call 14; (with_reducible refine HM1.out.mono ?_); rintro en w6 ⟨rfl, rfl⟩)
            | (go_at_call 15; (with_reducible refine HRS.out.mono ?_); rintro en w7 ⟨rfl, rfl⟩)
            | (go_at_call 14; (with_reducible refine HM2.out.mono ?_); rintro en w8 ⟨rfl, rfl⟩)
            | (go_at_call 6; (with_reducible refine (awake_any _).mono ?_); rintro en w9 ⟨rfl, hb9⟩))
          go_ret
          exact ⟨rfl, hb7.trans (hb9.mono (by rw [set_sz]; exact hsr))⟩
end Go.Proofs.Ytfcianhmfpenhaa
