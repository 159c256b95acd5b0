/- The law TrackerReaches, walked: it returns true. -/
import Derived.Test.YtdcclpdnnhaeoaaWs
import Derived.Deep.Cut
namespace Go.Proofs.Ytdcclpdnnhaeoaa
open Go.RowKit
set_option linter.unusedVariables false
set_option linter.unusedSimpArgs false
theorem field_x (a b : Int) (w : World) : (Instr.field 34 (pt a b) 0).run Try.prog w = .ok (.int .i64 a) w := by kernel_rfl
theorem field_y (a b : Int) (w : World) : (Instr.field 34 (pt a b) 1).run Try.prog w = .ok (.int .i64 b) w := by kernel_rfl
theorem setF (w : World) (a p : Addr) (u : Value) : (w.setCell a u).frozen? p = w.frozen? p := by simp [go_sem]
/-- limits in a block -/
structure Lm (w : World) (g : Nat) (S A B : Int) : Prop where
  c0 : w.cell? ⟨g, 0, none⟩ = some (.int .i64 S)
  c1 : w.cell? ⟨g, 1, none⟩ = some (.int .i64 A)
  c2 : w.cell? ⟨g, 2, none⟩ = some (.int .i64 B)
  c3 : w.cell? ⟨g, 3, none⟩ = some (.int .i64 0)
  c4 : w.cell? ⟨g, 4, none⟩ = some (.int .i64 0)
theorem Lm.keep {w w' : World} {g : Nat} {S A B : Int} (h : Lm w g S A B) (hb : w'.heap[g]? = w.heap[g]?) : Lm w' g S A B :=
  ⟨(World.cell?_of_block hb).trans h.c0, (World.cell?_of_block hb).trans h.c1, (World.cell?_of_block hb).trans h.c2, (World.cell?_of_block hb).trans h.c3, (World.cell?_of_block hb).trans h.c4⟩
/-- a motion in a block -/
structure Mm (w : World) (g : Nat) (px py vx vy : Int) : Prop where
  c0 : w.cell? ⟨g, 0, none⟩ = some (.int .i64 px)
  c1 : w.cell? ⟨g, 1, none⟩ = some (.int .i64 py)
  c2 : w.cell? ⟨g, 2, none⟩ = some (.int .i64 vx)
  c3 : w.cell? ⟨g, 3, none⟩ = some (.int .i64 vy)
  f0 : w.frozen? ⟨g, 0, none⟩ = false
  f1 : w.frozen? ⟨g, 1, none⟩ = false
  f2 : w.frozen? ⟨g, 2, none⟩ = false
  f3 : w.frozen? ⟨g, 3, none⟩ = false
theorem Mm.keep {w w' : World} {g : Nat} {px py vx vy : Int} (h : Mm w g px py vx vy) (hb : w'.heap[g]? = w.heap[g]?) : Mm w' g px py vx vy :=
  ⟨(World.cell?_of_block hb).trans h.c0, (World.cell?_of_block hb).trans h.c1, (World.cell?_of_block hb).trans h.c2, (World.cell?_of_block hb).trans h.c3, (World.frozen?_of_block hb).trans h.f0, (World.frozen?_of_block hb).trans h.f1, (World.frozen?_of_block hb).trans h.f2, (World.frozen?_of_block hb).trans h.f3⟩
theorem Mm.set {w : World} {g : Nat} {px py vx vy : Int} (h : Mm w g px py vx vy) (a b c d : Int) : Mm ((((w.setCell ⟨g, 0, none⟩ (.int .i64 a)).setCell ⟨g, 1, none⟩ (.int .i64 b)).setCell ⟨g, 2, none⟩ (.int .i64 c)).setCell ⟨g, 3, none⟩ (.int .i64 d)) g a b c d := by
  obtain ⟨h0, h1, h2, h3, k0, k1, k2, k3⟩ := h
  refine ⟨?_, ?_, ?_, ?_, by rw [setF, setF, setF, setF]; exact k0, by rw [setF, setF, setF, setF]; exact k1, by rw [setF, setF, setF, setF]; exact k2, by rw [setF, setF, setF, setF]; exact k3⟩ <;> go_simp
theorem set4_heap {w : World} {g b : Nat} (h : b ≠ g) (u0 u1 u2 u3 : Value) : ((((w.setCell ⟨g, 0, none⟩ u0).setCell ⟨g, 1, none⟩ u1).setCell ⟨g, 2, none⟩ u2).setCell ⟨g, 3, none⟩ u3).heap[b]? = w.heap[b]? := by
  rw [Below.heap_setCell _ _ _ _ h, Below.heap_setCell _ _ _ _ h, Below.heap_setCell _ _ _ _ h, Below.heap_setCell _ _ _ _ h]
theorem set4_sz (w : World) (g : Nat) (u0 u1 u2 u3 : Value) : ((((w.setCell ⟨g, 0, none⟩ u0).setCell ⟨g, 1, none⟩ u1).setCell ⟨g, 2, none⟩ u2).setCell ⟨g, 3, none⟩ u3).heap.size = w.heap.size := by simp [World.setCell]
theorem own_pt (w : World) (a b : Int) (fz : Nat × Nat) (hf : fz = (0, 0) := by rfl) : (w.alloc (.cells #[.int .i64 a, .int .i64 b] 34 fz)).ownsRow w.heap.size 34 2 (.slice (some ⟨w.heap.size, 0, none⟩) 1 1) 1 [.int .i64 a, .int .i64 b] := by
  subst hf
  refine ⟨rfl, .inr ⟨w.heap.size, 1, #[.int .i64 a, .int .i64 b], rfl, Nat.le_refl _, ?_, Nat.le_refl _, by decide, rfl, rfl⟩⟩
  show (w.heap.push _)[w.heap.size]? = _
  simp
theorem rdP_wants {w : World} {v : Value} {n : Nat} {X Y : Nat → Int} (h : RdP w v n X Y) : ∃ a cap, v = .slice a n cap ∧ Wants w a n X Y := by
  obtain ⟨a, cap, h1, h2⟩ := h
  refine ⟨a, cap, h1, fun hp => ?_⟩
  obtain ⟨g, k1, k2, k3⟩ := h2 hp
  exact ⟨g, 0, k1, k2, fun i hi => by rw [Nat.zero_add]; exact k3 i hi⟩
theorem chk_lim {a b c : Int} (h1 : 0 ≤ a) (h2 : a ≤ 255) : chk (a + 1) (b % (a + 1) + 1) (min (c % (a + 1) + 1) (b % (a + 1) + 1)) 0 0 = true ∧ 1 ≤ b % (a + 1) + 1 ∧ 1 ≤ c % (a + 1) + 1 := by
  have q1 := Int.emod_nonneg b (show a + 1 ≠ 0 by omega)
  have q2 := Int.emod_lt_of_pos b (show 0 < a + 1 by omega)
  have q3 := Int.emod_nonneg c (show a + 1 ≠ 0 by omega)
  have q4 := Int.emod_lt_of_pos c (show 0 < a + 1 by omega)
  refine ⟨?_, by omega, by omega⟩
  unfold chk
  rw [inB_mk (by omega) (by omega), inB_mk (by omega) (by omega), inB_mk (by omega) (by omega), inB_mk (by omega) (by omega), inB_mk (by omega) (by omega)]
  rfl
set_option maxHeartbeats 16000000 in
set_option maxRecDepth 100000 in
theorem reaches_long (a b c s : Int) (ga : Option Addr) (len cap : Nat) (hlen : 30 < len) (hl : len ≤ maxLen) (w : World) :
    Calls Try.prog 6 #[.agg #[.int .u8 a, .int .u8 b, .int .u8 c], .int .u8 s, .slice ga len cap] w fun e w' => e = .returned (.bool true) ∧ Below w.heap.size w w' := by
  have hlI : (30 : Int) < (len : Int) := by omega
  have hM : maxLen ≤ 9223372036854775807 := by decide
  go_enter Try.func6, Try.ntmps6
  go_wp2_with (first | (go_at_call 7; (with_reducible refine (awake_any _).mono ?_); rintro e w2 ⟨rfl, hb⟩))
  go_ret
  exact ⟨rfl, below_box hb⟩
set_option maxHeartbeats 16000000 in
set_option maxRecDepth 100000 in
theorem reaches_walk (a b c s : Int) (h1 : 0 ≤ a) (h2 : a ≤ 255) (h3 : 0 ≤ b) (h4 : b ≤ 255) (h5 : 0 ≤ c) (h6 : c ≤ 255) (h7 : 0 ≤ s) (h8 : s ≤ 255) (ga : Option Addr) (len cap : Nat) (hlen : len ≤ 30) (G : Nat → Int) (w : World)
    (ha : Hid (0 < len → ∃ b off, ga = some ⟨b, off, none⟩ ∧ b < w.heap.size ∧ ∀ i, i < len → w.cell? ⟨b, off + i, none⟩ = some (.int .u8 (G i)) ∧ 0 ≤ G i ∧ G i ≤ 255)) :
    Calls Try.prog 6 #[.agg #[.int .u8 a, .int .u8 b, .int .u8 c], .int .u8 s, .slice ga len cap] w fun e w' => e = .returned (.bool true) ∧ Below w.heap.size w w' := by
  obtain ⟨i0, hi, hz0, hz1, hz2⟩ := info_parts info34
  have hlI : (len : Int) ≤ 30 := by omega
  obtain ⟨U, V, hax, eX, eY⟩ := al_axis h7 h8
  have HAX := hid hax
  obtain ⟨k1, k2, k3⟩ := chk_lim (b := b) (c := c) h1 h2
  have HCK := hid k1
  have HL := hid (fun w => limits_any a b c h1 h2 h3 h4 h5 h6 w)
  have HAL := hid (fun (n : Int) (n1 : -1000000000 ≤ n) (n2 : n ≤ 1000000000) (w : World) => along_any s n h7 h8 n1 n2 w)
  simp only [eX, eY] at HAL
  clear k1 eX eY
  obtain ⟨S, hS⟩ : ∃ S, S = a + 1 := ⟨_, rfl⟩
  rw [← hS] at HCK HL k2 k3
  generalize b % S + 1 = A at *
  generalize c % S + 1 = B0 at *
  have s1 : 1 ≤ S := by omega
  have s2 : S ≤ 4096 := by omega
  have hB1 : 1 ≤ min B0 A := by omega
  have hB2 : min B0 A ≤ A := by omega
  have hB3 : min B0 A ≤ 4096 := by have := chk_true HCK.out; omega
  clear hS h1 h2 h3 h4 h5 h6
  have hW0 := gapQ_range G len
  have hW1 : gapQ G len ≤ 100000 := by omega
  have hQr : Hid (∀ i, i < len + 1 → 0 ≤ gapQ G i ∧ gapQ G i ≤ gapQ G len) := hid (fun i hi => ⟨(gapQ_range G i).1, gapQ_mono G (by omega)⟩)
  have hQm : Hid (∀ i j, i ≤ j → j < len + 1 → gapQ G i ≤ gapQ G j) := hid (fun i j h _ => gapQ_mono G h)
  have HNEW := hid (fun (a : Option Addr) (cap : Nat) (w : World) (ha : Hid (Wants w a (len + 1) (fun i => U * gapQ G i) (fun i => V * gapQ G i))) => new_ok a (len + 1) cap (fun i => U * gapQ G i) (fun i => V * gapQ G i) S A (min B0 A) 0 0 S 0 (pchk_ok HAX.out hW1 (by omega) (by omega) hQr.out) (by omega) (by omega) (by omega) (by omega) HCK.out w ha)
  generalize hBB : min B0 A = B at *
  have HBB := hid hBB
  go_enter Try.func6, Try.ntmps6
  go_upto_region 4 with (first
    | (go_at_call 13; (with_reducible refine (HL.out _).mono ?_); rintro e w1 ⟨rfl, hb1⟩))
  go_upto_region 8 with fail
  clear hBB
  have hs1 : w.heap.size < w1.heap.size := by have := hb1.size; simp at this; omega
  have hb1' : Below w.heap.size w w1 := below_box hb1
  have hb2 : Below w.heap.size w ((w1.alloc (.cells #[.int .i64 S, .int .i64 A, .int .i64 B, .int .i64 0, .int .i64 0] 27)).alloc (.cells #[.int .i64 0, .int .i64 0] 34)) := (hb1'.alloc hb1'.size _).alloc (by rw [alloc_size]; omega) _
  have hown0 : ((w1.alloc (.cells #[.int .i64 S, .int .i64 A, .int .i64 B, .int .i64 0, .int .i64 0] 27)).alloc (.cells #[.int .i64 0, .int .i64 0] 34)).ownsRow (w1.heap.size + 1) 34 2 (.slice (some ⟨w1.heap.size + 1, 0, none⟩) 1 1) 1 (flatP (fun i => U * gapQ G i) (fun i => V * gapQ G i) 1) := by
    have := own_pt (w1.alloc (.cells #[.int .i64 S, .int .i64 A, .int .i64 B, .int .i64 0, .int .i64 0] 27)) 0 0 (0, 0)
    rw [alloc_size] at this
    simpa [flatP, gapQ] using this
  have hlm0 : Lm ((w1.alloc (.cells #[.int .i64 S, .int .i64 A, .int .i64 B, .int .i64 0, .int .i64 0] 27)).alloc (.cells #[.int .i64 0, .int .i64 0] 34)) w1.heap.size S A B := by
    constructor <;> go_simp <;> simp
  have HO0 := hid hown0
  have HL0 := hid hlm0
  clear hb1 hown0 hlm0
  go_loopw [8, 9, 10] (fun s8 s9 s10 wr => ∃ k : Nat, s10 = .int .i64 k ∧ k ≤ len ∧ s9 = .int .i64 (gapQ G k) ∧ wr.ownsRow (w1.heap.size + 1) 34 2 s8 (k + 1) (flatP (fun i => U * gapQ G i) (fun i => V * gapQ G i) (k + 1)) ∧ Hid (Lm wr w1.heap.size S A B) ∧ w1.heap.size + 1 < wr.heap.size ∧ Below w.heap.size w wr) (fun _ _ s10 _ => len - (intOf s10).toNat)
  case atStart => exact ⟨0, rfl, Nat.zero_le _, rfl, HO0.out, HL0, by simp, hb2⟩
  case round =>
    clear HO0 HL0 hb2
    obtain ⟨k, rfl, hk, rfl, hown, HLm, hsz, hb⟩ := hrel
    have hss := hb.size
    by_cases hkT : k < len
    · obtain ⟨b', off, rfl, hbw, hcell⟩ := ha.out (by omega)
      obtain ⟨x0, x1, x2⟩ := hcell k hkT
      clear hcell
      have x0' : wr.cell? ⟨b', off + k, none⟩ = some (.int .u8 (G k)) := (hb.cell hbw).trans x0
      clear x0
      have hkI : (k : Int) < (len : Int) := by omega
      have hkI0 : (0 : Int) ≤ (k : Int) := by omega
      have hq := gapQ_range G k
      have hr1 := Int.emod_nonneg (G k) (show (101 : Int) ≠ 0 by omega)
      have hr2 := Int.emod_lt_of_pos (G k) (show (0 : Int) < 101 by omega)
      have HA1 := hid (fun w => HAL.out (gapQ G k + G k % 101) (by omega) (by omega) w)
      have HF : Hid (flatP (fun i => U * gapQ G i) (fun i => V * gapQ G i) (k + 1 + 1) = flatP (fun i => U * gapQ G i) (fun i => V * gapQ G i) (k + 1) ++ [.int .i64 (U * (gapQ G k + G k % 101)), .int .i64 (V * (gapQ G k + G k % 101))]) := hid rfl
      have HQS : Hid (gapQ G (k + 1) = gapQ G k + G k % 101) := hid rfl
      generalize flatP (fun i => U * gapQ G i) (fun i => V * gapQ G i) (k + 1) = LK at *
      generalize U * (gapQ G k + G k % 101) = PX at *
      generalize V * (gapQ G k + G k % 101) = PY at *
      go_wp2_with (first
        | (go_at_call 22; (with_reducible refine (HA1.out _).mono ?_); rintro e w3 ⟨rfl, hb3⟩; have hs3 := hb3.size; have hown3 := own_below hown hb3)
        | (at_builtin; refine wpList_append_own_at _ rfl _ _ 23 rfl (w1.heap.size + 1) 34 i0 (.agg #[.int .i64 0, .int .i64 0]) 2 16 Try.underlying23 hi hz0 hz1 hz2 agg2_size (by decide) u8 (k + 1) LK rfl (hown3.alloc _) ⟨w3.heap.size, 0, none⟩ 1 1 [.int .i64 PX, .int .i64 PY] rfl rfl (cells2_new rfl _ _ _) (one2 _ _) (by unfold maxLen; omega) (by omega) (by rw [alloc_size]; omega) ?_
           intro v' w4 hown4 hgrow4 _ hat4; have HG := hid hgrow4; clear hgrow4))
      have hlt := fun j hj => (hown.lt j hj).1
      have hsz4 := HG.out.size
      rw [alloc_size] at hsz4
      have hblk : ∀ j, j < w1.heap.size + 1 → w4.heap[j]? = wr.heap[j]? := fun j hj => (HG.out.block j (by rw [alloc_size]; omega) (fun e => by have := (hown3.lt _ e.symm).1; omega)).trans ((((Below.refl w3.heap.size w3).alloc (Nat.le_refl _) _).block j (by omega)).trans (hb3.block j (by omega)))
      have HLm4 := hid (HLm.out.keep (hblk _ (by omega)))
      clear hblk
      go_roundw
      case rel =>
        refine ⟨k + 1, by go_num, by omega, by rw [HQS.out], ?_, HLm4, by omega, ?_⟩
        · rw [HF.out]; exact hown4
        · exact below_app (hb.trans (hb3.mono hss)) HG.out (fun j hj => by have := (hown3.lt j hj).1; omega)
      case measure => simp [intOf]; omega
    · obtain rfl : k = len := by omega
      obtain ⟨pa, pcap, rfl, hwants⟩ := rdP_wants (rdP_own hown)
      have HWA := hid hwants
      have hm := HLm.out
      obtain ⟨m0, m1, m2, m3, m4⟩ := hm
      clear hwants ha HL
      go_upto_region 15 with (first
        | (go_at_call 8; (with_reducible refine (HNEW.out _ _ _ HWA).mono ?_); rintro e w2 ⟨g, g2, cap', rfl, hg, ht, hg2, hgg, hx, hb2⟩; have HT := hid ht; have hgl := ht.lt; clear ht))
      clear m0 m1 m2 m3 m4 HWA HNEW
      have hTS : TS w2 g g2 (k + 1) cap' U V (gapQ G) S A B 0 := ⟨⟨0, 0, false, HT.out⟩, by omega, by omega, hx.out⟩
      have hsz2 := hb2.size
      have hLm2 : Lm w2 w1.heap.size S A B := HLm.out.keep (hb2.block _ (by omega))
      have hB2' : Below w.heap.size w w2 := hb.trans (hb2.mono hss)
      have hQl : gapQ G (k + 1 - 1) = gapQ G k := by rw [Nat.add_sub_cancel]
      have HST := hid (go_start (W := gapQ G k) (S := S) (B := B) (Q := gapQ G) (len := k + 1) (by omega) hW0.1 (by omega) hB1 hQr.out)
      have HGO := hid (fun pr p c w => reach_goal (g := g) (g2 := g2) (cap := cap') (pr := pr) (A := A) (p := p) (c := c) HAX.out hW1 (show 0 < k + 1 by omega) (by omega) hQl hQr.out hQm.out s1 s2 hB1 hB3 w)
      have HON := hid (fun pr p c w => reach_on (g := g) (g2 := g2) (cap := cap') (pr := pr) (A := A) (p := p) (c := c) HAX.out hW1 (show 0 < k + 1 by omega) (by omega) hQl hQr.out hQm.out s1 s2 hB1 hB3 hB2 w)
      have HSTP := hid (fun pr p c l => reach_step (len := k + 1) (pr := pr) (B := B) (p := p) (c := c) (l := l) (Q := gapQ G) HAX.out hW1 HCK.out)
      have HTS := hid hTS
      have HLM := hid hLm2
      have hW2 := hW0.1
      clear hTS hLm2 hQl hQr hQm hx HT HLm hown hW0 HCK hax
      generalize hQe : gapQ G k = W at *
      clear hQe
      generalize gapQ G = Q at *
      go_upto_region 17 with fail
      have hMm0 : Mm (w2.alloc (.cells #[.int .i64 0, .int .i64 0, .int .i64 0, .int .i64 0] 50)) w2.heap.size (U * 0) (V * 0) (U * 0) (V * 0) := by
        constructor <;> go_simp <;> simp
      have hal := (Below.refl w2.heap.size w2).alloc (Nat.le_refl _) (.cells #[.int .i64 0, .int .i64 0, .int .i64 0, .int .i64 0] 50)
      have HMM := hid hMm0
      have HAL2 := hid hal
      clear hMm0 hal
      go_loopw [14, 15, 16, 17] (fun s14 s15 s16 s17 wr => ∃ (j pr : Nat) (p c : Int), s14 = .int .i64 j ∧ (j : Int) ≤ p ∧ Hid (Go1 W S B Q (k + 1) pr p c) ∧ Hid (TS wr g g2 (k + 1) cap' U V Q S A B pr) ∧ Hid (Lm wr w1.heap.size S A B) ∧ Hid (Mm wr w2.heap.size (U * p) (V * p) (U * c) (V * c)) ∧ w2.heap.size < wr.heap.size ∧ Below w.heap.size w wr) (fun s14 _ _ _ _ => (W + 1 - intOf s14).toNat)
      case atStart => exact ⟨0, 0, 0, 0, rfl, Int.le_refl _, HST, hid (HTS.out.below HAL2.out), hid (HLM.out.keep (HAL2.out.block _ (by omega))), HMM, by simp, hB2'.alloc (by omega) _⟩
      case round =>
        clear HST HTS HLM HMM HAL2 hB2' hb2 hb
        obtain ⟨j, pr, p, c, rfl, hjp, HG, HT, HL, HM, hsr, hB⟩ := hrel
        have hp0 := HG.out.p0
        have hp1 := HG.out.p1
        have hglt := HT.out.glt
        have hg2lt := HT.out.lt2
        have hjW : (j : Int) ≤ W := by omega
        have hj0 : (0 : Int) ≤ (j : Int) := by omega
        obtain ⟨x1, x2, x3, x4⟩ := ax_abs HAX.out hp0
        have hMs : ∃ M1 M2 : Int, U * p * U = M1 ∧ V * p * V = M2 ∧ M1 + M2 = p ∧ 0 ≤ M1 ∧ 0 ≤ M2 := by
          refine ⟨_, _, rfl, rfl, ?_⟩
          rcases HAX.out with ⟨e1, e2⟩ | ⟨e1, e2⟩ | ⟨e1, e2⟩ | ⟨e1, e2⟩ <;> rw [e1, e2] <;> simp <;> omega
        obtain ⟨M1, M2, hM1, hM2, hM3, hM4, hM5⟩ := hMs
        have HA1 : Hid (∀ w, Calls Try.prog 22 #[.int .u8 s, .int .i64 1] w fun e w' => e = .returned (pt U V) ∧ Below w.heap.size w w') := hid (fun w => by have := HAL.out 1 (by omega) (by omega) w; rwa [Int.mul_one, Int.mul_one] at this)
        have HAP := hid (fun w => HAL.out p (by omega) (by omega) w)
        have hm := HM.out
        obtain ⟨c0, c1, c2, c3, f0, f1, f2, f3⟩ := hm
        have qn := neq_pt
        have qe := eql_pt
        have qx := field_x
        have qy := field_y
        by_cases hpW : p = W
        · have HN := hid (HGO.out pr p c wr HT.out HG.out hpW)
          clear HGO HON HSTP
          generalize U * p = PX at *
          generalize V * p = PY at *
          generalize U * c = CX at *
          generalize V * c = CY at *
          subst hpW
          go_upto_region 20 with (first
            | (go_at_call 16; (with_reducible refine (HN.out).mono ?_); rintro e w3 ⟨rfl, hx3⟩; have hs3 := hx3.size; have HX3 := hid hx3; have d0 := (hx3.cell (b := w2.heap.size) (o := 0) hsr (by omega)).trans c0; have d1 := (hx3.cell (b := w2.heap.size) (o := 1) hsr (by omega)).trans c1; clear hx3))
          obtain ⟨wA, hwA⟩ : ∃ wA, wA = w3.alloc (.cells #[.int .i64 0, .int .i64 0] 34) := ⟨_, rfl⟩
          have hA3 : Below w3.heap.size w3 wA := by rw [hwA]; exact (Below.refl _ _).alloc (Nat.le_refl _) _
          have hv0 : wA.cell? ⟨w3.heap.size, 0, none⟩ = some (.int .i64 0) := by rw [hwA]; go_simp <;> simp
          have hv1 : wA.cell? ⟨w3.heap.size, 1, none⟩ = some (.int .i64 0) := by rw [hwA]; go_simp <;> simp
          have hvl : w3.heap.size < wA.heap.size := by rw [hwA]; simp
          rw [← hwA]
          clear hwA
          have hsA := hA3.size
          have rm0 : ∀ z : Later wA, z.val.cell? ⟨w2.heap.size, 0, none⟩ = some (.int .i64 PX) := fun z => (z.cell (by omega)).trans ((hA3.cell (p := ⟨w2.heap.size, 0, none⟩) (by dsimp only; omega)).trans d0)
          have rm1 : ∀ z : Later wA, z.val.cell? ⟨w2.heap.size, 1, none⟩ = some (.int .i64 PY) := fun z => (z.cell (by omega)).trans ((hA3.cell (p := ⟨w2.heap.size, 1, none⟩) (by dsimp only; omega)).trans d1)
          have hM2' : p - M1 = M2 := by omega
          refine wp_region_later (w0 := wA) (Below.refl _ _) (by kernel_rfl) (by kernel_rfl) ?_
          repeat (go_big_quiet_step ((go_at_call 22; with_reducible exact calls_later (HA1.out _))))
          refine wpQuiet_nil ?_
          intro _ hw'
          obtain ⟨y, hw''⟩ := hw'
          subst hw''
          have hd1 : decide (p < 0) = false := decide_eq_false (by omega)
          have hd2 : decide (p < p) = false := decide_eq_false (by omega)
          go_upto_region 21 with fail
          have sm0 : ∀ z : Later y.val, z.val.cell? ⟨w2.heap.size, 0, none⟩ = some (.int .i64 PX) := fun z => (z.cell (by have := y.ok.size; omega)).trans (rm0 y)
          have sm1 : ∀ z : Later y.val, z.val.cell? ⟨w2.heap.size, 1, none⟩ = some (.int .i64 PY) := fun z => (z.cell (by have := y.ok.size; omega)).trans (rm1 y)
          refine wp_region_later (w0 := y.val) (Below.refl _ _) (by kernel_rfl) (by kernel_rfl) ?_
          repeat (go_big_quiet_step ((go_at_call 22; with_reducible exact calls_later (HAP.out _))))
          refine wpQuiet_nil ?_
          intro _ hw'
          obtain ⟨y2, hw''⟩ := hw'
          subst hw''
          have hY : Below w3.heap.size w3 y2.val := hA3.trans ((y.ok.trans (y2.ok.mono y.ok.size)).mono hsA)
          have e0 : y2.val.cell? ⟨w3.heap.size, 0, none⟩ = some (.int .i64 0) := (y2.cell (by have := y.ok.size; omega)).trans ((y.cell (by omega)).trans hv0)
          have e1 : y2.val.cell? ⟨w3.heap.size, 1, none⟩ = some (.int .i64 0) := (y2.cell (by have := y.ok.size; omega)).trans ((y.cell (by omega)).trans hv1)
          have hB3 : Below w.heap.size w y2.val := (Bex.below hB HX3.out (by omega) hB.size).trans (hY.mono (by have := hB.size; omega))
          go_wp2_with (first | (go_at_call 7; (with_reducible refine (awake_any _).mono ?_); rintro e w5 ⟨rfl, hb5⟩))
          refine bodyPost_ret (v := .bool true) (by simp [results, Try.results6, go_sem]) rfl ?_
          exact ⟨rfl, hB3.trans (hb5.mono hB3.size)⟩
        · have hlt : p < W := by omega
          have hN := HON.out pr p c wr HT.out HG.out hlt
          have hl1 : 1 ≤ spd (W - p) B := spd_pos (by omega) hB1
          obtain ⟨l, hl⟩ : ∃ l, l = min S (spd (W - p) B) := ⟨_, rfl⟩
          rw [← hl] at hN
          have HN := hid hN
          have HSTP1 := hid (fun G' w => HSTP.out pr p c l HG.out (by omega) (by omega) G' w)
          clear HGO HON HSTP hN hl
          generalize hPX : U * p = PX at *
          generalize hPY : V * p = PY at *
          generalize hCX : U * c = CX at *
          generalize hCY : V * c = CY at *
          generalize hWX : U * l = WX at *
          generalize hWY : V * l = WY at *
          clear hPX hPY hCX hCY hWX hWY
          have hpW2 : (p == W) = false := by simpa using hpW
          go_upto_region 20 with (first
            | (go_at_call 16; (with_reducible refine (HN.out).mono ?_); rintro e w3 ⟨rfl, hx3, J, hT3, hG3, hn3⟩; have hs3 := hx3.size; have HX3 := hid hx3; have HT3 := hid hT3; have HG3 := hid hG3; have d0 := (hx3.cell (b := w2.heap.size) (o := 0) hsr (by omega)).trans c0; have d1 := (hx3.cell (b := w2.heap.size) (o := 1) hsr (by omega)).trans c1; clear hx3 hT3 hG3))
          obtain ⟨wA, hwA⟩ : ∃ wA, wA = w3.alloc (.cells #[.int .i64 WX, .int .i64 WY] 34) := ⟨_, rfl⟩
          have hA3 : Below w3.heap.size w3 wA := by rw [hwA]; exact (Below.refl _ _).alloc (Nat.le_refl _) _
          have hv0 : wA.cell? ⟨w3.heap.size, 0, none⟩ = some (.int .i64 WX) := by rw [hwA]; go_simp <;> simp
          have hv1 : wA.cell? ⟨w3.heap.size, 1, none⟩ = some (.int .i64 WY) := by rw [hwA]; go_simp <;> simp
          have hvl : w3.heap.size < wA.heap.size := by rw [hwA]; simp
          rw [← hwA]
          clear hwA
          have hsA := hA3.size
          have rm0 : ∀ z : Later wA, z.val.cell? ⟨w2.heap.size, 0, none⟩ = some (.int .i64 PX) := fun z => (z.cell (by omega)).trans ((hA3.cell (p := ⟨w2.heap.size, 0, none⟩) (by dsimp only; omega)).trans d0)
          have rm1 : ∀ z : Later wA, z.val.cell? ⟨w2.heap.size, 1, none⟩ = some (.int .i64 PY) := fun z => (z.cell (by omega)).trans ((hA3.cell (p := ⟨w2.heap.size, 1, none⟩) (by dsimp only; omega)).trans d1)
          have hM2' : p - M1 = M2 := by omega
          refine wp_region_later (w0 := wA) (Below.refl _ _) (by kernel_rfl) (by kernel_rfl) ?_
          repeat (go_big_quiet_step ((go_at_call 22; with_reducible exact calls_later (HA1.out _))))
          refine wpQuiet_nil ?_
          intro _ hw'
          obtain ⟨y, hw''⟩ := hw'
          subst hw''
          have hd1 : decide (p < 0) = false := decide_eq_false (by omega)
          have hd2 : decide (W < p) = false := decide_eq_false (by omega)
          go_upto_region 21 with fail
          have sm0 : ∀ z : Later y.val, z.val.cell? ⟨w2.heap.size, 0, none⟩ = some (.int .i64 PX) := fun z => (z.cell (by have := y.ok.size; omega)).trans (rm0 y)
          have sm1 : ∀ z : Later y.val, z.val.cell? ⟨w2.heap.size, 1, none⟩ = some (.int .i64 PY) := fun z => (z.cell (by have := y.ok.size; omega)).trans (rm1 y)
          refine wp_region_later (w0 := y.val) (Below.refl _ _) (by kernel_rfl) (by kernel_rfl) ?_
          repeat (go_big_quiet_step ((go_at_call 22; with_reducible exact calls_later (HAP.out _))))
          refine wpQuiet_nil ?_
          intro _ hw'
          obtain ⟨y2, hw''⟩ := hw'
          subst hw''
          have hY : Below w3.heap.size w3 y2.val := hA3.trans ((y.ok.trans (y2.ok.mono y.ok.size)).mono hsA)
          have hs4 := y.ok.size
          have hs5 := y2.ok.size
          have hg3 := HG3.out.p0
          have hg4 := HG3.out.p1
          have HS5 := hid (HSTP1.out ⟨hg3, hg4⟩)
          have kM := HM.out.keep (HX3.out.block _ hsr (by omega))
          have kM2 := kM.keep (hY.block _ (by omega))
          have HM5 := hid kM2
          have HL5 := hid ((HL.out.keep (HX3.out.block _ (by omega) (by omega))).keep (hY.block _ (by omega)))
          have HT5 := hid (HT3.out.below hY)
          have hB3 : Below w.heap.size w y2.val := (Bex.below hB HX3.out (by omega) hB.size).trans (hY.mono (by have := hB.size; omega))
          have e0 : y2.val.cell? ⟨w3.heap.size, 0, none⟩ = some (.int .i64 WX) := (y2.cell (by omega)).trans ((y.cell (by omega)).trans hv0)
          have e1 : y2.val.cell? ⟨w3.heap.size, 1, none⟩ = some (.int .i64 WY) := (y2.cell (by omega)).trans ((y.cell (by omega)).trans hv1)
          obtain ⟨m0, m1, m2, m3, -, -, -, -⟩ := kM2
          obtain ⟨l0, l1, l2, l3, l4⟩ := id HL5.out
          clear kM rm0 rm1 sm0 sm1 qn qe qx qy
          go_wp2_with (first
            | (go_at_call 23; (with_reducible refine (HS5.out _).mono ?_); rintro e w6 ⟨rfl, hb6⟩; have hs6 := hb6.size
               have hM6 := HM5.out.keep (hb6.block _ (by omega))
               have HM6 := hid hM6
               obtain ⟨-, -, -, -, f0', f1', f2', f3'⟩ := hM6
               have n0 := (hb6.cell (p := ⟨w2.heap.size, 0, none⟩) (by dsimp only; omega)).trans m0
               have n1 := (hb6.cell (p := ⟨w2.heap.size, 1, none⟩) (by dsimp only; omega)).trans m1
               have n2 := (hb6.cell (p := ⟨w2.heap.size, 2, none⟩) (by dsimp only; omega)).trans m2
               have n3 := (hb6.cell (p := ⟨w2.heap.size, 3, none⟩) (by dsimp only; omega)).trans m3))
          have hT6 := HT5.out.below hb6
          have hB6 := hB3.trans (hb6.mono hB3.size)
          go_roundw
          case rel =>
            refine ⟨j + 1, J, p + nsp c l A, nsp c l A, by go_num, by omega, HG3, hid (hT6.keep (Nat.le_of_eq (set4_sz _ _ _ _ _ _).symm) (set4_heap (by omega) _ _ _ _) (set4_heap (by omega) _ _ _ _)), hid ((HL5.out.keep (hb6.block _ (by omega))).keep (set4_heap (by omega) _ _ _ _)), hid (HM6.out.set _ _ _ _), by rw [set4_sz]; omega, ?_⟩
            exact (((hB6.setCell (by dsimp only; omega) _).setCell (by dsimp only; omega) _).setCell (by dsimp only; omega) _).setCell (by dsimp only; omega) _
          case measure => simp [intOf]; omega
end Go.Proofs.Ytdcclpdnnhaeoaa
