/- The law TrackerPlays, walked: it returns true. -/
import Derived.Test.YtdcclpdnnhaeoaaWz
import Derived.Test.YtdcclpdnnhaeoaaL6w
import Derived.Test.YtdcclpdnnhaeoaaFrameS
import Derived.Deep.RegionHeld3
namespace Go.Proofs.Ytdcclpdnnhaeoaa
open Go.RowKit
set_option linter.unusedVariables false
set_option linter.unusedSimpArgs false
/-- a block of the reference's tracker, empty -/
structure ZB (w : World) (g : Nat) : Prop where
  c0 : w.cell? ⟨g, 0, none⟩ = some (.slice none 0 0)
  c1 : w.cell? ⟨g, 1, none⟩ = some (.int .i64 0)
  c2 : w.cell? ⟨g, 2, none⟩ = some (.int .i64 0)
  c3 : w.cell? ⟨g, 3, none⟩ = some (.int .i64 0)
  c4 : w.cell? ⟨g, 4, none⟩ = some (.int .i64 0)
  c5 : w.cell? ⟨g, 5, none⟩ = some (.int .i64 0)
  c6 : w.cell? ⟨g, 6, none⟩ = some (.int .i64 0)
  c7 : w.cell? ⟨g, 7, none⟩ = some (.int .i64 0)
  c8 : w.cell? ⟨g, 8, none⟩ = some (.int .i64 0)
  c9 : w.cell? ⟨g, 9, none⟩ = some (.int .i64 0)
  c10 : w.cell? ⟨g, 10, none⟩ = some (.int .i64 0)
  c11 : w.cell? ⟨g, 11, none⟩ = some (.bool false)
  f0 : w.frozen? ⟨g, 0, none⟩ = false
  f1 : w.frozen? ⟨g, 1, none⟩ = false
  f2 : w.frozen? ⟨g, 2, none⟩ = false
  f3 : w.frozen? ⟨g, 3, none⟩ = false
  f4 : w.frozen? ⟨g, 4, none⟩ = false
  f5 : w.frozen? ⟨g, 5, none⟩ = false
  f6 : w.frozen? ⟨g, 6, none⟩ = false
  f7 : w.frozen? ⟨g, 7, none⟩ = false
  f8 : w.frozen? ⟨g, 8, none⟩ = false
  f9 : w.frozen? ⟨g, 9, none⟩ = false
  f10 : w.frozen? ⟨g, 10, none⟩ = false
  f11 : w.frozen? ⟨g, 11, none⟩ = false
  lt : g < w.heap.size
theorem ZB.below {w w' : World} {g : Nat} (h : ZB w g) (hb : Below w.heap.size w w') : ZB w' g where
  c0 := (hb.cell h.lt).trans h.c0
  c1 := (hb.cell h.lt).trans h.c1
  c2 := (hb.cell h.lt).trans h.c2
  c3 := (hb.cell h.lt).trans h.c3
  c4 := (hb.cell h.lt).trans h.c4
  c5 := (hb.cell h.lt).trans h.c5
  c6 := (hb.cell h.lt).trans h.c6
  c7 := (hb.cell h.lt).trans h.c7
  c8 := (hb.cell h.lt).trans h.c8
  c9 := (hb.cell h.lt).trans h.c9
  c10 := (hb.cell h.lt).trans h.c10
  c11 := (hb.cell h.lt).trans h.c11
  f0 := (hb.frozen h.lt).trans h.f0
  f1 := (hb.frozen h.lt).trans h.f1
  f2 := (hb.frozen h.lt).trans h.f2
  f3 := (hb.frozen h.lt).trans h.f3
  f4 := (hb.frozen h.lt).trans h.f4
  f5 := (hb.frozen h.lt).trans h.f5
  f6 := (hb.frozen h.lt).trans h.f6
  f7 := (hb.frozen h.lt).trans h.f7
  f8 := (hb.frozen h.lt).trans h.f8
  f9 := (hb.frozen h.lt).trans h.f9
  f10 := (hb.frozen h.lt).trans h.f10
  f11 := (hb.frozen h.lt).trans h.f11
  lt := Nat.lt_of_lt_of_le h.lt hb.size
theorem ZB.drew {w : World} {g : Nat} (h : ZB w g) : ZB w.drew g := h.below (Below.drew (Below.refl _ _))
theorem zb_alloc (w : World) : ZB (w.alloc (.cells #[.slice none 0 0, .int .i64 0, .int .i64 0, .int .i64 0, .int .i64 0, .int .i64 0, .int .i64 0, .int .i64 0, .int .i64 0, .int .i64 0, .int .i64 0, .bool false] 36)) w.heap.size := by
  constructor <;> first | (go_simp <;> simp; done) | simp
abbrev st12 (w : World) (g : Nat) (v : Value) (S A B ah tl : Int) : World := ((((((((((((w.setCell ⟨g, 0, none⟩ v).setCell ⟨g, 1, none⟩ (.int .i64 S)).setCell ⟨g, 2, none⟩ (.int .i64 A)).setCell ⟨g, 3, none⟩ (.int .i64 B)).setCell ⟨g, 4, none⟩ (.int .i64 0)).setCell ⟨g, 5, none⟩ (.int .i64 0)).setCell ⟨g, 6, none⟩ (.int .i64 ah)).setCell ⟨g, 7, none⟩ (.int .i64 tl)).setCell ⟨g, 8, none⟩ (.int .i64 0)).setCell ⟨g, 9, none⟩ (.int .i64 0)).setCell ⟨g, 10, none⟩ (.int .i64 0)).setCell ⟨g, 11, none⟩ (.bool false))
theorem st12_size (w : World) (g : Nat) (v : Value) (S A B ah tl : Int) : (st12 w g v S A B ah tl).heap.size = w.heap.size := by simp [st12, World.setCell]
theorem st12_heap {w : World} {g b : Nat} (h : b ≠ g) (v : Value) (S A B ah tl : Int) : (st12 w g v S A B ah tl).heap[b]? = w.heap[b]? := by
  unfold st12
  rw [Below.heap_setCell _ _ _ _ h, Below.heap_setCell _ _ _ _ h, Below.heap_setCell _ _ _ _ h, Below.heap_setCell _ _ _ _ h, Below.heap_setCell _ _ _ _ h, Below.heap_setCell _ _ _ _ h, Below.heap_setCell _ _ _ _ h, Below.heap_setCell _ _ _ _ h, Below.heap_setCell _ _ _ _ h, Below.heap_setCell _ _ _ _ h, Below.heap_setCell _ _ _ _ h, Below.heap_setCell _ _ _ _ h]
theorem st12_below {w0 w : World} {n g : Nat} (hb : Below n w0 w) (hg : n ≤ g) (v : Value) (S A B ah tl : Int) : Below n w0 (st12 w g v S A B ah tl) := ((((((((((((hb.setCell hg _).setCell hg _).setCell hg _).setCell hg _).setCell hg _).setCell hg _).setCell hg _).setCell hg _).setCell hg _).setCell hg _).setCell hg _).setCell hg _)
set_option maxHeartbeats 4000000 in
theorem st12_trk {w : World} {g : Nat} (h : ZB w g) (v : Value) (S A B ah tl : Int) : Trk (st12 w g v S A B ah tl) g v S A B 0 0 ah tl 0 0 0 false := by
  obtain ⟨e0, e1, e2, e3, e4, e5, e6, e7, e8, e9, e10, e11, z0, z1, z2, z3, z4, z5, z6, z7, z8, z9, z10, z11, lt⟩ := h
  constructor
  · rw [st12_size]; exact lt
  all_goals (unfold st12; go_simp)
theorem trk_new12 (w : World) (v : Value) (S A B ah tl : Int) : Trk (w.alloc (.cells #[v, .int .i64 S, .int .i64 A, .int .i64 B, .int .i64 0, .int .i64 0, .int .i64 ah, .int .i64 tl, .int .i64 0, .int .i64 0, .int .i64 0, .bool false] 36)) w.heap.size v S A B 0 0 ah tl 0 0 0 false := by
  constructor <;> first | (go_simp <;> simp; done) | simp
set_option maxHeartbeats 4000000 in
set_option maxRecDepth 100000 in
theorem plays_long1 (n0 n1 n2 ah tl : Int) (a : Option Addr) (len cap : Nat) (X Y : Nat → Int) (sa : Option Addr) (slen scap : Nat) (F : Nat → Stp) (hl : slen ≤ maxLen) (h : 40 < slen) (w : World) : Calls Try.prog 5 #[.agg #[.int .u8 n0, .int .u8 n1, .int .u8 n2, .int .i64 ah, .int .i64 tl, .slice a len cap], .slice sa slen scap] w fun e w' => e = .returned (.bool true) ∧ Below w.heap.size w w' := by
  have h1 : (40 : Int) < (slen : Int) := by omega
  have hM : maxLen ≤ 9223372036854775807 := by decide
  go_enter Try.func5, Try.ntmps5
  go_wp2_with (first | (go_at_call 7; (with_reducible refine (awake_any _).mono ?_); rintro e w5 ⟨rfl, hb5⟩))
  go_ret
  exact ⟨rfl, below_box hb5⟩
set_option maxHeartbeats 4000000 in
set_option maxRecDepth 100000 in
theorem plays_long2 (n0 n1 n2 ah tl : Int) (a : Option Addr) (len cap : Nat) (X Y : Nat → Int) (sa : Option Addr) (slen scap : Nat) (F : Nat → Stp) (hl : len ≤ maxLen) (h0 : slen ≤ 40) (h : 40 < len) (w : World) : Calls Try.prog 5 #[.agg #[.int .u8 n0, .int .u8 n1, .int .u8 n2, .int .i64 ah, .int .i64 tl, .slice a len cap], .slice sa slen scap] w fun e w' => e = .returned (.bool true) ∧ Below w.heap.size w w' := by
  have h1 : (slen : Int) ≤ 40 := by omega
  have h2 : (40 : Int) < (len : Int) := by omega
  have hM : maxLen ≤ 9223372036854775807 := by decide
  go_enter Try.func5, Try.ntmps5
  go_wp2_with (first | (go_at_call 7; (with_reducible refine (awake_any _).mono ?_); rintro e w5 ⟨rfl, hb5⟩))
  go_ret
  exact ⟨rfl, below_box hb5⟩
set_option maxHeartbeats 16000000 in
set_option maxRecDepth 100000 in
theorem plays_walk (n0 n1 n2 ah tl : Int) (a : Option Addr) (len cap : Nat) (X Y : Nat → Int) (sa : Option Addr) (slen scap : Nat) (F : Nat → Stp) (h0 : slen ≤ 40) (h : len ≤ 40) (m1 : 0 ≤ n0) (m2 : n0 ≤ 255) (m3 : 0 ≤ n1) (m4 : n1 ≤ 255) (m5 : 0 ≤ n2) (m6 : n2 ≤ 255) (w : World) (ha : Hid (Wants w a len X Y)) (hs : Hid (0 < slen → ∃ b off, sa = some ⟨b, off, none⟩ ∧ b < w.heap.size ∧ ∀ i, i < slen → StpAt w ⟨b, off + i * 4, none⟩ (F i)))
    (hp : pchk len X Y = 0) (a1 : 0 ≤ ah) (a2 : ah ≤ 1048576) (t1 : 0 ≤ tl) (t2 : tl ≤ 1048576) : Calls Try.prog 5 #[.agg #[.int .u8 n0, .int .u8 n1, .int .u8 n2, .int .i64 ah, .int .i64 tl, .slice a len cap], .slice sa slen scap] w fun e w' => e = .returned (.bool true) ∧ Below w.heap.size w w' := by
  have hlI : (len : Int) ≤ 40 := by omega
  have hsI : (slen : Int) ≤ 40 := by omega
  have hL := hid (fun w => limits_any n0 n1 n2 m1 m2 m3 m4 m5 m6 w)
  have q1 := Int.emod_nonneg n1 (show n0 + 1 ≠ 0 by omega)
  have q2 := Int.emod_lt_of_pos n1 (show 0 < n0 + 1 by omega)
  have q3 := Int.emod_nonneg n2 (show n0 + 1 ≠ 0 by omega)
  have q4 := Int.emod_lt_of_pos n2 (show 0 < n0 + 1 by omega)
  have s1 : 1 ≤ n0 + 1 := by omega
  have s2 : n0 + 1 ≤ 256 := by omega
  have aa1 : 1 ≤ n1 % (n0 + 1) + 1 := by omega
  have aa2 : n1 % (n0 + 1) + 1 ≤ n0 + 1 := by omega
  have b1 : 1 ≤ n2 % (n0 + 1) + 1 := by omega
  have b2 : n2 % (n0 + 1) + 1 ≤ n0 + 1 := by omega
  clear q1 q2 q3 q4
  generalize n1 % (n0 + 1) + 1 = A at *
  generalize n2 % (n0 + 1) + 1 = B at *
  generalize n0 + 1 = S at *
  have hck : chk S A B 0 0 = true := by
    unfold chk
    rw [inB_mk s1 (by omega), inB_mk aa1 aa2, inB_mk b1 b2, inB_mk (by omega) (by omega), inB_mk (by omega) (by omega)]
    rfl
  clear m1 m2 m3 m4 m5 m6
  have hB1 : Below w.heap.size w (w.alloc (.cells #[.int .u8 n0, .int .u8 n1, .int .u8 n2, .int .i64 ah, .int .i64 tl, .slice a len cap] 25)) := (Below.refl _ _).alloc (Nat.le_refl _) _
  have HN := hid (fun (w' : World) (h : Below w.heap.size w w') => new_okc a len cap X Y S A B 0 0 ah tl hp a1 a2 t1 t2 hck w' (hid (wants_below ha.out h)))
  have HR := hid (fun (w' : World) (h : Below w.heap.size w w') => rnew_okc a len cap X Y S A B 0 0 ah tl hp a1 a2 t1 t2 w' (hid (wants_below ha.out h)))
  have HBX : Hid (∀ w', Below (w.alloc (.cells #[.int .u8 n0, .int .u8 n1, .int .u8 n2, .int .i64 ah, .int .i64 tl, .slice a len cap] 25)).heap.size (w.alloc (.cells #[.int .u8 n0, .int .u8 n1, .int .u8 n2, .int .i64 ah, .int .i64 tl, .slice a len cap] 25)) w' → w'.cell? ⟨w.heap.size, 0, none⟩ = some (.int .u8 n0) ∧ w'.cell? ⟨w.heap.size, 1, none⟩ = some (.int .u8 n1) ∧ w'.cell? ⟨w.heap.size, 2, none⟩ = some (.int .u8 n2) ∧ w'.cell? ⟨w.heap.size, 3, none⟩ = some (.int .i64 ah) ∧ w'.cell? ⟨w.heap.size, 4, none⟩ = some (.int .i64 tl) ∧ w'.cell? ⟨w.heap.size, 5, none⟩ = some (.slice a len cap)) := hid (fun w' hb => by
    refine ⟨?_, ?_, ?_, ?_, ?_, ?_⟩ <;> exact (hb.cell (by simp)).trans (by simp [go_sem]))
  clear hck
  go_enter Try.func5, Try.ntmps5
  go_upto_region 3 with fail
  obtain ⟨k0, k1, k2, k3, k4, k5⟩ := HBX.out _ (Below.refl _ _)
  go_region_held3 (fun w' => w'.cell? ⟨w.heap.size, 0, none⟩ = some (.int .u8 n0) ∧ w'.cell? ⟨w.heap.size, 1, none⟩ = some (.int .u8 n1) ∧ w'.cell? ⟨w.heap.size, 2, none⟩ = some (.int .u8 n2) ∧ w'.cell? ⟨w.heap.size, 3, none⟩ = some (.int .i64 ah) ∧ w'.cell? ⟨w.heap.size, 4, none⟩ = some (.int .i64 tl) ∧ w'.cell? ⟨w.heap.size, 5, none⟩ = some (.slice a len cap)) (first | go_keep | (exact HBX.out _ (by (repeat' (first | assumption | exact Below.refl _ _ | refine Below.drew ?_ | refine Below.alloc ?_ ?_ _ | (simp; done) | (simp; omega))))))
    (first
      | (go_at_call 13; (with_reducible refine (hL.out _).mono ?_); rintro e w2 ⟨rfl, hb2⟩; have hb2' : Below (w.alloc (.cells #[.int .u8 n0, .int .u8 n1, .int .u8 n2, .int .i64 ah, .int .i64 tl, .slice a len cap] 25)).heap.size (w.alloc (.cells #[.int .u8 n0, .int .u8 n1, .int .u8 n2, .int .i64 ah, .int .i64 tl, .slice a len cap] 25)) w2 := (Below.drew (Below.refl _ _)).trans hb2; have HB2 := hid hb2')
      | (go_at_call 8; (with_reducible refine (HN.out _ (hB1.trans (HB2.out.mono (by simp)))).mono ?_); rintro e w3 ⟨g, g2, cap', rfl, hg, ht, hg2, hgg, hx, hb3, hcc⟩; have hb3' := HB2.out.trans (hb3.mono HB2.out.size); have HB3 := hid hb3'; have HT := hid ht))
  have hBw3 : Below w.heap.size w w3 := hB1.trans (HB3.out.mono (by simp))
  have hs2 := HB2.out.size
  rw [alloc_size] at hs2
  have hTK : TK w3 w.heap.size g g S A B ah tl (rst len X Y) := by
    obtain ⟨p1, p2, p3⟩ := pchk_zero hp
    exact ⟨g2, cap', HT.out, by omega, by have := HT.out.lt; omega, by omega, by omega, hcc, hx.out⟩
  have hgl := HT.out.lt
  have hgw : w.heap.size ≤ g := by omega
  clear HT hx
  have HBX3 := hid (fun (w' : World) (hb : Below w3.heap.size w3 w') => HBX.out w' (HB3.out.trans (hb.mono HB3.out.size)))
  obtain ⟨k0, k1, k2, k3, k4, k5⟩ := HBX3.out _ (Below.refl _ _)
  go_upto_region 4 with fail
  go_cut [7, 8] (fun s7 s8 wq => ∃ gx, s7 = .pointer (some ⟨gx, 0, none⟩) ∧ s8 = .int .i64 0 ∧ Hid (TK wq w.heap.size gx g S A B ah tl (rst len X Y)) ∧ w3.heap.size ≤ gx ∧ Below w3.heap.size w3 wq)
  case first =>
    go_region_held3 (fun w' => w'.cell? ⟨w.heap.size, 0, none⟩ = some (.int .u8 n0) ∧ w'.cell? ⟨w.heap.size, 1, none⟩ = some (.int .u8 n1) ∧ w'.cell? ⟨w.heap.size, 2, none⟩ = some (.int .u8 n2) ∧ w'.cell? ⟨w.heap.size, 3, none⟩ = some (.int .i64 ah) ∧ w'.cell? ⟨w.heap.size, 4, none⟩ = some (.int .i64 tl) ∧ w'.cell? ⟨w.heap.size, 5, none⟩ = some (.slice a len cap)) (first | (with_reducible refine HBX3.out _ ?_; (repeat' (first | (with_reducible exact HB5.out) | (with_reducible exact HB4.out) | (with_reducible exact Below.refl _ _) | (with_reducible refine Below.drew ?_) | (with_reducible refine Below.setCell ?_ ?_ _) | (with_reducible refine Below.alloc ?_ ?_ _) | (with_reducible exact HB5.out.size) | (with_reducible exact HB4.out.size) | (dsimp only; omega) | (simp; done) | (simp; omega) | (rw [alloc_size]; exact Nat.le_succ_of_le HB4.out.size))); done) | go_keep)
      (first
        | (go_at_call 13; (with_reducible refine (hL.out _).mono ?_); rintro e w4 ⟨rfl, hb4⟩
           have HB4 : Hid (Below w3.heap.size w3 w4) := hid (by (with_reducible refine Below.trans ?_ (hb4.mono ?_)) <;> (repeat' (first | (with_reducible exact HB4.out) | (with_reducible exact Below.refl _ _) | (with_reducible refine Below.drew ?_) | (with_reducible refine Below.setCell ?_ ?_ _) | (with_reducible refine Below.alloc ?_ ?_ _) | (with_reducible exact HB4.out.size) | exact Nat.le_refl _ | (dsimp only; omega) | (simp; done) | (simp; omega) | (rw [alloc_size]; exact Nat.le_succ_of_le HB4.out.size))))
           first | (have HZ4 := hid (ZB.below (zb_alloc _) hb4)) | (have HZ4 := hid (ZB.below (ZB.drew (zb_alloc _)) hb4)) | skip)
        | (go_at_call 9; (with_reducible refine (HR.out _ (hBw3.trans (Below.mono (B := w3.heap.size) (by (repeat' (first | (with_reducible exact HB4.out) | (with_reducible exact Below.refl _ _) | (with_reducible refine Below.drew ?_) | (with_reducible refine Below.setCell ?_ ?_ _) | (with_reducible refine Below.alloc ?_ ?_ _) | (with_reducible exact HB4.out.size) | exact Nat.le_refl _ | (dsimp only; omega) | (simp; done) | (simp; omega) | (rw [alloc_size]; exact Nat.le_succ_of_le HB4.out.size)))) (by have := hBw3.size; omega)))).mono ?_); rintro e w5 ⟨gx2, capx, rfl, hgx2, hgxl, hxx, hb5, hccx⟩
           have HB5 : Hid (Below w3.heap.size w3 w5) := hid (by (with_reducible refine Below.trans ?_ (hb5.mono ?_)) <;> (repeat' (first | (with_reducible exact HB4.out) | (with_reducible exact Below.refl _ _) | (with_reducible refine Below.drew ?_) | (with_reducible refine Below.setCell ?_ ?_ _) | (with_reducible refine Below.alloc ?_ ?_ _) | (with_reducible exact HB4.out.size) | exact Nat.le_refl _ | (dsimp only; omega) | (simp; done) | (simp; omega) | (rw [alloc_size]; exact Nat.le_succ_of_le HB4.out.size))))
           first | (have HZ5 := hid (ZB.below HZ4.out hb5)) | (have HZ5 := hid (ZB.below (ZB.drew HZ4.out) hb5)) | (have HZ5 := hid (ZB.below (zb_alloc _) hb5)) | (have HZ5 := hid (ZB.below (ZB.drew (zb_alloc _)) hb5)) | skip
           try (obtain ⟨e0, e1, e2, e3, e4, e5, e6, e7, e8, e9, e10, e11, z0, z1, z2, z3, z4, z5, z6, z7, z8, z9, z10, z11, -⟩ := HZ5.out)))
    · have hg5 := HB5.out.size
      have hg4 := HB4.out.size
      go_wp2_with fail
      go_meet
      case rel =>
        refine ⟨w5.heap.size, rfl, rfl, hid ⟨gx2, capx, trk_new12 _ _ _ _ _ _ _, by omega, by rw [alloc_size]; omega, by omega, by omega, hccx, fun i hi => ?_⟩, by omega, HB5.out.alloc hg5 _⟩
        exact ⟨(World.cell?_alloc_lt _ _ _ hgxl).trans (hxx.out i hi).1, (World.cell?_alloc_lt _ _ _ hgxl).trans (hxx.out i hi).2⟩
    · have hg5 := HB5.out.size
      have hg4 := HB4.out.size
      have hzl := HZ5.out.lt
      rw [alloc_size] at hgx2
      go_wp2_with fail
      go_meet
      case rel =>
        refine ⟨w4.heap.size, rfl, rfl, hid ⟨gx2, capx, st12_trk HZ5.out _ _ _ _ _ _, by omega, by rw [st12_size]; omega, by omega, by omega, hccx, fun i hi => ?_⟩, by omega, st12_below HB5.out (by omega) _ _ _ _ _ _⟩
        exact ⟨(World.cell?_of_block (st12_heap (by dsimp only; omega) _ _ _ _ _ _)).trans (hxx.out i hi).1, (World.cell?_of_block (st12_heap (by dsimp only; omega) _ _ _ _ _ _)).trans (hxx.out i hi).2⟩
    · have hg5 := HB5.out.size
      have hg4 := HB4.out.size
      have hzl := HZ5.out.lt
      have hz4 := HZ4.out.lt
      go_wp2_with fail
      go_meet
      case rel =>
        refine ⟨w3.heap.size, rfl, rfl, hid ⟨gx2, capx, st12_trk HZ5.out _ _ _ _ _ _, by omega, by rw [st12_size]; omega, by omega, by omega, hccx, fun i hi => ?_⟩, by omega, st12_below HB5.out (by omega) _ _ _ _ _ _⟩
        exact ⟨(World.cell?_of_block (st12_heap (by dsimp only; omega) _ _ _ _ _ _)).trans (hxx.out i hi).1, (World.cell?_of_block (st12_heap (by dsimp only; omega) _ _ _ _ _ _)).trans (hxx.out i hi).2⟩
  case rest =>
    obtain ⟨gx, rfl, rfl, HX0, hgx, hbx⟩ := hcut
    have hT0 := (hTK.re hgx).below hbx (by omega)
    have HT0 := hid hT0
    have hsx := hbx.size
    have hBw : Below w.heap.size w wc := hBw3.trans (hbx.mono (by have := hBw3.size; omega))
    have HP0 := hid (rst_ok hp)
    have hgne : g ≠ gx := by omega
    have hgw1 : w.heap.size ≠ g := by omega
    have hgx1 : w.heap.size ≠ gx := by omega
    obtain ⟨O, hO⟩ : ∃ O, (w.alloc (.cells #[.int .u8 n0, .int .u8 n1, .int .u8 n2, .int .i64 ah, .int .i64 tl, .slice a len cap] 25)).heap[w.heap.size]? = O := ⟨_, rfl⟩
    have HBO : Hid (∀ w' : World, w'.heap[w.heap.size]? = O → w'.cell? ⟨w.heap.size, 5, none⟩ = some (.slice a len cap)) := hid (fun w' h => (World.cell?_of_block (h.trans hO.symm)).trans (by simp [go_sem]))
    have HO0 : Hid (wc.heap[w.heap.size]? = O) := hid ((hbx.block _ (by omega)).trans ((HB3.out.block _ (by simp)).trans hO))
    clear hO
    have hgxw : w.heap.size ≤ gx := by omega
    clear hT0 hTK hbx hBw3 HBX3 HN HR HB3 HB2 hL
    have HK := hid (fun (w' : World) (hb : Below wc.heap.size wc w') => hb)
    go_upto_region 8 with fail
    generalize rst len X Y = p0 at *
    go_loopw [9, 10, 11, 12, 13, 14, 15, 16] (fun s9 s10 s11 s12 s13 s14 s15 s16 wr => ∃ (i : Nat) (p : Pst), s9 = .int .i64 i ∧ i ≤ slen ∧ Hid (TK wr w.heap.size g gx S A B ah tl p) ∧ Hid (TK wr w.heap.size gx g S A B ah tl p) ∧ Hid p.ok ∧ Hid (wr.heap[w.heap.size]? = O) ∧ w.heap.size < wr.heap.size ∧ Below w.heap.size w wr) (fun s9 _ _ _ _ _ _ _ _ => slen - (intOf s9).toNat)
    case atStart => exact ⟨0, p0, rfl, Nat.zero_le _, HT0, HX0, HP0, HO0, by omega, hBw⟩
    case round =>
      clear HT0 HX0 HP0 hBw HK HO0
      obtain ⟨i, p, rfl, hi, HT, HX, HP, HO, hwl, hB⟩ := hrel
      have hsr := hB.size
      by_cases hiT : i < slen
      · obtain ⟨b, off, rfl, hbw, hst⟩ := hs.out (by omega)
        have hst1 := hst i hiT
        have HST := hid hst
        clear hst
        obtain ⟨y0, y1, y2, y3, r1, r2, r3, r4, r5, r6, r7, r8⟩ := hst1
        have HW8 := hid r8
        clear r8
        simp only [add_plain, Nat.add_zero] at y0 y1 y2 y3
        have hiI : (i : Int) < (slen : Int) := by omega
        have hiI0 : (0 : Int) ≤ (i : Int) := by omega
        have z3 : wr.cell? ⟨b, off + i * 4 + 3, none⟩ = some (.slice (F i).a (F i).n (F i).c) := (hB.cell hbw).trans y3
        have HY := hid (And.intro y0 (And.intro y1 (And.intro y2 y3)))
        clear y0 y1 y2 y3
        have hM : maxLen ≤ 9223372036854775807 := by decide
        by_cases hlong : 40 < (F i).n
        · have hlongI : (40 : Int) < ((F i).n : Int) := by omega
          go_wp2_with (first | (go_at_call 7; (with_reducible refine (awake_any _).mono ?_); rintro e w5 ⟨rfl, hb5⟩))
          refine bodyPost_ret (v := .bool true) (by simp [results, Try.results5, go_sem]) rfl ?_
          exact ⟨rfl, hB.trans (hb5.mono hsr)⟩
        · have hlongI : ¬ ((40 : Int) < ((F i).n : Int)) := by omega
          go_upto_region 12 with fail
          clear z3
          generalize F i = st at *
          have rz : ∀ (z : Later wr), (z.val.cell? ⟨b, off + i * 4, none⟩ = some (.int .u8 st.k)) ∧ (z.val.cell? ⟨b, off + i * 4 + 1, none⟩ = some (.int .i16 st.x)) ∧ (z.val.cell? ⟨b, off + i * 4 + 2, none⟩ = some (.int .i16 st.y)) ∧ (z.val.cell? ⟨b, off + i * 4 + 3, none⟩ = some (.slice st.a st.n st.c)) := fun z => by
            have k : ∀ o, z.val.cell? ⟨b, o, none⟩ = w.cell? ⟨b, o, none⟩ := fun o => (z.cell (by omega)).trans (hB.cell hbw)
            rw [k, k, k, k]
            exact HY.out
          go_cut [10] (fun s10 wq => ∃ g : Nat, s10 = .pointer (some ⟨g, 0, none⟩) ∧ g < wq.heap.size ∧ wr.heap.size ≤ g ∧ wq.cell? ⟨g, 0, none⟩ = some (.int .i64 st.x) ∧ wq.cell? ⟨g, 1, none⟩ = some (.int .i64 st.y) ∧ wq.cell? ⟨g, 2, none⟩ = some (.int .i64 0) ∧ wq.cell? ⟨g, 3, none⟩ = some (.int .i64 0) ∧ wq.frozen? ⟨g, 0, none⟩ = false ∧ wq.frozen? ⟨g, 1, none⟩ = false ∧ wq.frozen? ⟨g, 2, none⟩ = false ∧ wq.frozen? ⟨g, 3, none⟩ = false ∧ Below wr.heap.size wr wq)
          case first =>
            refine wp_region_fresh 14 15 (fun _ => .cells #[.int .i64 0, .int .i64 0, .int .i64 0, .int .i64 0] 50) (by kernel_rfl) (by kernel_rfl) (by omega) (by kernel_rfl) ?_
            apply Exists.intro
            refine ⟨fun v1 kb1 => ?_, ?_⟩
            · have ks1 := kb1.size
              have vx : ∀ (z : Later v1), z.val.cell? ⟨b, off + i * 4 + 1, none⟩ = some (.int .i16 st.x) := fun z => (z.cell (by have := kb1.size; omega)).trans ((kb1.cell (by dsimp only; omega)).trans ((rz ⟨wr, Below.refl _ _⟩).2.1))
              have vy : ∀ (z : Later v1), z.val.cell? ⟨b, off + i * 4 + 2, none⟩ = some (.int .i16 st.y) := fun z => (z.cell (by have := kb1.size; omega)).trans ((kb1.cell (by dsimp only; omega)).trans ((rz ⟨wr, Below.refl _ _⟩).2.2.1))
              simp only [List.take_succ_cons, List.take_zero]
              repeat (go_big_quiet_step (fail))
              exact wpQuiet_nil rfl
            · simp only [List.take_succ_cons, List.take_zero, List.drop_succ_cons, List.drop_zero]
              refine wpHead_new (by decide) rfl (run_alloc25 _ _ _ _ _ _) (fun g hg e1 => ?_)
              intro w' hS
              have b1 := (hS.own g _ upd_same).2
              have g1 := hS.lt (g := g) upd_same
              obtain ⟨c1, f1⟩ := block_cells b1
              have hbb := hS.below
              have q0 := c1 0
              have q1 := c1 1
              have q2 := c1 2
              have q3 := c1 3
              simp only [List.getElem?_toArray, List.getElem?_cons_zero, List.getElem?_cons_succ] at q0 q1 q2 q3
              clear c1 b1 hS e1
              simp only [Act.put, List.setIfInBounds_toArray, List.set_cons_zero, List.set_cons_succ]
              go_wp2
              go_meet
              case rel =>
                refine ⟨g, rfl, by simpa [World.setCell] using g1, by simpa using hg, ?_, ?_, ?_, ?_, ?_, ?_, ?_, ?_, ?_⟩
                · go_simp
                · go_simp
                · go_simp
                · go_simp
                · go_simp
                · go_simp
                · go_simp
                · go_simp
                · exact ((((hbb.setCell hg _).setCell hg _).setCell hg _).setCell hg _)
          case rest =>
            obtain ⟨h10, rfl, hh10, hl10, x0, x1, x2, x3, -, -, -, -, hb10⟩ := hcut
            have hT2 := hid (HT.out.below hb10 hgne)
            have hX2 := hid (HX.out.below hb10 (Ne.symm hgne))
            have hB2 := hB.trans (hb10.mono hsr)
            have HO2 := hid ((hb10.block _ hwl).trans HO.out)
            have hs2 := hb10.size
            have HM2 := hid (And.intro x0 (And.intro x1 (And.intro x2 x3)))
            have HT1l := hid (show g < h10 by have := HT.out.lt; omega)
            have HX1l := hid (show gx < h10 by have := HX.out.lt; omega)
            clear rz HT HX hb10 x0 x1 x2 x3
            have kk : wc.cell? ⟨b, off + i * 4, none⟩ = some (.int .u8 st.k) := (hB2.cell hbw).trans HY.out.1
            go_upto_if 104 with fail
            have hsp : w.heap.size ≤ h10 := by omega
            have hTl := hT2.out.lt
            have hXl := hX2.out.lt
            have hhg : h10 ≠ g := by have := HT1l.out; omega
            have hhx : h10 ≠ gx := by have := HX1l.out; omega
            generalize wc = wd at *
            go_cut [11, 12, 13, 14] (fun s11 s12 s13 s14 wq => ∃ p' : Pst, Hid (TK wq w.heap.size g gx S A B ah tl p') ∧ Hid (TK wq w.heap.size gx g S A B ah tl p') ∧ Hid p'.ok ∧ Hid (wq.cell? ⟨h10, 0, none⟩ = some (.int .i64 st.x) ∧ wq.cell? ⟨h10, 1, none⟩ = some (.int .i64 st.y) ∧ wq.cell? ⟨h10, 2, none⟩ = some (.int .i64 0) ∧ wq.cell? ⟨h10, 3, none⟩ = some (.int .i64 0)) ∧ h10 < wq.heap.size ∧ Hid (wq.heap[w.heap.size]? = O) ∧ w.heap.size < wq.heap.size ∧ Below w.heap.size w wq)
            case first =>
              have hwd : w.heap.size ≤ wd.heap.size := hB2.size
              have hwd2 : w.heap.size < wd.heap.size := by omega
              by_cases hk3 : st.k.tmod 4 = 3
              · have hk4 : st.k % 4 = 3 := by rwa [Int.tmod_eq_emod_of_nonneg r1] at hk3
                go_upto_region 14 with fail
                clear kk
                have zz : wd.cell? ⟨b, off + i * 4 + 3, none⟩ = some (.slice st.a st.n st.c) := (hB2.cell hbw).trans HY.out.2.2.2
                have HWA : Hid (∀ w', Below w.heap.size w w' → Hid (Wants w' st.a st.n st.X st.Y)) := hid (fun w' hb => hid (wants_below HW8.out hb))
                have HKS : Hid (∀ w', Below w.heap.size w w' → w'.cell? ⟨b, off + i * 4 + 3, none⟩ = some (.slice st.a st.n st.c)) := hid (fun w' hb => (hb.cell hbw).trans HY.out.2.2.2)
                by_cases hpc : pchk st.n st.X st.Y = 0
                · have C14 := hid (fun (w' : World) (hb : Below wd.heap.size wd w') => tk_replace (hT2.out.below hb hgne) (by have := hb.size; omega) (by have := hb.size; omega) st.a st.n st.c st.X st.Y hpc (HWA.out w' (hB2.trans (hb.mono hwd))))
                  have C15 := hid (fun (w' : World) (hx : TK w' w.heap.size gx g S A B ah tl p) (hb : Below w.heap.size w w') (hgl : g < w'.heap.size) => tk_rreplace hx hb.size hgl st.a st.n st.c st.X st.Y hpc (HWA.out w' hb))
                  have HOK := hid (rst_ok hpc)
                  clear hpc
                  generalize rst st.n st.X st.Y = p' at *
                  go_region_held3 (fun w' => w'.cell? ⟨b, off + i * 4 + 3, none⟩ = some (.slice st.a st.n st.c)) (first | assumption | go_keep)
                    (first
                      | (go_at_call 14; (with_reducible refine (C14.out _ (Below.drew (Below.refl _ _))).mono ?_); rintro e w4 ⟨rfl, ht4, hx4⟩
                         have HT4 := hid ht4
                         have HX4 := hid hx4
                         have hb4 : Below w.heap.size w w4 := Bex.below (Below.drew hB2) hx4 hgw hwd
                         have hs4 : wd.heap.size ≤ w4.heap.size := hx4.size
                         have HX5 := hid ((hX2.out.below (Below.drew (Below.refl _ _)) (Ne.symm hgne)).other hx4 (Ne.symm hgne))
                         have z4 := HKS.out w4 hb4
                         have HB4 := hid hb4
                         clear ht4 hx4 hb4)
                      | (go_at_call 15; (with_reducible refine (C15.out _ HX5.out HB4.out (by omega)).mono ?_); rintro e w5 ⟨rfl, ht5, hx5⟩
                         have HT5 := hid ht5
                         have HX6 := hid hx5
                         have hs5 : w4.heap.size ≤ w5.heap.size := hx5.size
                         have hb5 : Below w.heap.size w w5 := Bex.below HB4.out hx5 hgxw (by omega)
                         have z5 := HKS.out w5 hb5
                         have HB5 := hid hb5
                         have HT6 := hid (HT4.out.other hx5 hgne)
                         clear ht5 hx5 hb5))
                  go_wp2_with fail
                  go_meet
                  case rel =>
                    have e4 : ∀ o, w4.cell? ⟨h10, o, none⟩ = wd.cell? ⟨h10, o, none⟩ := fun o => HX4.out.cell hh10 hhg
                    have e5 : ∀ o, w5.cell? ⟨h10, o, none⟩ = wd.cell? ⟨h10, o, none⟩ := fun o => (HX6.out.cell (by omega) hhx).trans (e4 o)
                    exact ⟨p', HT6, HT5, HOK, hid (by rw [e5, e5, e5, e5]; exact HM2.out), by omega, hid ((HX6.out.block _ (by omega) hgx1).trans ((HX4.out.block _ hwd2 hgw1).trans HO2.out)), by omega, HB5.out⟩
                · have C14 := hid (fun (w' : World) (hb : Below wd.heap.size wd w') => replace_err g st.a st.n st.c st.X st.Y hpc w' (HWA.out w' (hB2.trans (hb.mono hwd))))
                  have C15 := hid (fun (w' : World) (hb : Below wd.heap.size wd w') => rreplace_err gx st.a st.n st.c st.X st.Y hpc w' (HWA.out w' (hB2.trans (hb.mono hwd))))
                  clear hpc
                  generalize pchk st.n st.X st.Y = E at *
                  go_region_held3 (fun w' => w'.cell? ⟨b, off + i * 4 + 3, none⟩ = some (.slice st.a st.n st.c)) (first | assumption | go_keep)
                    (first
                      | (go_at_call 14; (with_reducible refine (C14.out _ (Below.drew (Below.refl _ _))).mono ?_); rintro e w4 ⟨rfl, hb4⟩
                         have hb4' : Below wd.heap.size wd w4 := (Below.drew (Below.refl _ _)).trans hb4
                         have z4 := HKS.out w4 (hB2.trans (hb4'.mono hwd))
                         have HB4 := hid hb4'
                         clear hb4 hb4')
                      | (go_at_call 15; (with_reducible refine (C15.out _ HB4.out).mono ?_); rintro e w5 ⟨rfl, hb5⟩
                         have hb5' : Below wd.heap.size wd w5 := HB4.out.trans (hb5.mono HB4.out.size)
                         have z5 := HKS.out w5 (hB2.trans (hb5'.mono hwd))
                         have HB5 := hid hb5'
                         clear hb5 hb5'))
                  go_wp2_with fail
                  go_meet
                  case rel =>
                    have e5 : ∀ o, w5.cell? ⟨h10, o, none⟩ = wd.cell? ⟨h10, o, none⟩ := fun o => HB5.out.cell (p := ⟨h10, o, none⟩) hh10
                    have hs5 := HB5.out.size
                    exact ⟨p, hid (hT2.out.below HB5.out hgne), hid (hX2.out.below HB5.out (Ne.symm hgne)), HP, hid (by rw [e5, e5, e5, e5]; exact HM2.out), by omega, hid ((HB5.out.block _ hwd2).trans HO2.out), by omega, hB2.trans (HB5.out.mono hwd)⟩
              · have hk4 : ¬ (st.k % 4 = 3) := by rwa [Int.tmod_eq_emod_of_nonneg r1] at hk3
                have C16 := hid (tk_next (px := st.x) (py := st.y) (vx := 0) (vy := 0) HP.out hT2.out (by omega) (by omega) (by omega) (by omega) s1 (by omega) b1 (by omega))
                have C17 := hid (fun (w' : World) (hx : TK w' w.heap.size gx g S A B ah tl p) => tk_rnext (px := st.x) (py := st.y) (vx := 0) (vy := 0) HP.out hx (by omega) (by omega) (by omega) (by omega) s1 (by omega) b1 (by omega))
                have hV := nV_le (px := st.x) (py := st.y) (S := S) (B := B) (ah := ah) (tl := tl) HP.out (by omega) (by omega) (by omega) (by omega) (by omega) b1
                have HOK := hid (nxt_ok HP.out st.x st.y ah tl)
                have hab := abs_of_sqr (by omega) hV
                generalize nVX p st.x st.y S B ah tl = VX at *
                generalize nVY p st.x st.y S B ah tl = VY at *
                generalize nF p st.x st.y tl = FIN at *
                generalize nxt p st.x st.y ah tl = p' at *
                have hMs : ∃ M1 M2 M3 : Int, VX * VX = M1 ∧ VY * VY = M2 ∧ S * S = M3 ∧ M1 + M2 ≤ M3 ∧ 0 ≤ M1 ∧ 0 ≤ M2 ∧ M3 ≤ 65536 := ⟨_, _, _, rfl, rfl, rfl, hV, sq_self_nonneg _, sq_self_nonneg _, by have := sq_le (a := S) (b := 256) (by omega) s2; omega⟩
                obtain ⟨M1, M2, M3, hM1, hM2, hM3, hM4, hM5, hM6, hM7⟩ := hMs
                obtain ⟨v1, v2, v3, v4⟩ := hab
                obtain ⟨x0, x1, x2, x3⟩ := id HM2.out
                clear hV
                go_upto_region 16 with fail
                clear kk
                go_upto_region 17 with (first
                  | (go_at_call 16; (with_reducible refine (C16.out).mono ?_); rintro e w4 ⟨rfl, ht4, hx4⟩; have HT4 := hid ht4; have HX4 := hid hx4; clear ht4 hx4))
                have hs4 : wd.heap.size ≤ w4.heap.size := HX4.out.size
                have hb4 : Below w.heap.size w w4 := Bex.below hB2 HX4.out hgw hwd
                have hXa : TK w4 w.heap.size gx g S A B ah tl p := hX2.out.other HX4.out (Ne.symm hgne)
                obtain ⟨wA, hwA⟩ : ∃ wA, wA = w4.alloc (.cells #[.int .i64 VX, .int .i64 VY] 34) := ⟨_, rfl⟩
                have hA4 : Below w4.heap.size w4 wA := by rw [hwA]; exact (Below.refl _ _).alloc (Nat.le_refl _) _
                have va0 : wA.cell? ⟨w4.heap.size, 0, none⟩ = some (.int .i64 VX) := by rw [hwA]; go_simp <;> simp
                have va1 : wA.cell? ⟨w4.heap.size, 1, none⟩ = some (.int .i64 VY) := by rw [hwA]; go_simp <;> simp
                have hvl : w4.heap.size < wA.heap.size := by rw [hwA]; simp
                rw [← hwA]
                clear hwA
                have hA : Below w.heap.size w wA := hb4.trans (hA4.mono (by omega))
                have e4 : ∀ o, wA.cell? ⟨h10, o, none⟩ = wd.cell? ⟨h10, o, none⟩ := fun o => (hA4.cell (p := ⟨h10, o, none⟩) (by dsimp only; omega)).trans (HX4.out.cell hh10 hhg)
                have u0 := (e4 0).trans x0
                have u1 := (e4 1).trans x1
                have u2 := (e4 2).trans x2
                have u3 := (e4 3).trans x3
                have E4 := hid e4
                have HXA := hid (hXa.below hA4 (Ne.symm hgne))
                have HTA := hid (HT4.out.below hA4 hgne)
                have hTAl := HTA.out.lt
                have hXAl := HXA.out.lt
                clear hXa hb4 x0 x1 x2 x3 e4
                go_upto_region 18 with (first
                  | (go_at_call 17; (with_reducible refine (C17.out _ HXA.out).mono ?_); rintro e w5 ⟨rfl, ht5, hx5⟩; have HT5 := hid ht5; have HX5 := hid hx5; clear ht5 hx5))
                have hs5 : wA.heap.size ≤ w5.heap.size := HX5.out.size
                have hb5 : Below w.heap.size w w5 := Bex.below hA HX5.out hgxw hA.size
                have hgA : w4.heap.size ≠ gx := by omega
                obtain ⟨wB, hwB⟩ : ∃ wB, wB = w5.alloc (.cells #[.int .i64 VX, .int .i64 VY] 34) := ⟨_, rfl⟩
                have hB5 : Below w5.heap.size w5 wB := by rw [hwB]; exact (Below.refl _ _).alloc (Nat.le_refl _) _
                have vb0 : wB.cell? ⟨w5.heap.size, 0, none⟩ = some (.int .i64 VX) := by rw [hwB]; go_simp <;> simp
                have vb1 : wB.cell? ⟨w5.heap.size, 1, none⟩ = some (.int .i64 VY) := by rw [hwB]; go_simp <;> simp
                rw [← hwB]
                clear hwB u0 u1 u2 u3
                have vc0 : wB.cell? ⟨w4.heap.size, 0, none⟩ = some (.int .i64 VX) := (hB5.cell (p := ⟨w4.heap.size, 0, none⟩) (by dsimp only; omega)).trans ((HX5.out.cell hvl hgA).trans va0)
                have vc1 : wB.cell? ⟨w4.heap.size, 1, none⟩ = some (.int .i64 VY) := (hB5.cell (p := ⟨w4.heap.size, 1, none⟩) (by dsimp only; omega)).trans ((HX5.out.cell hvl hgA).trans va1)
                have HXB := hid (HT5.out.below hB5 (Ne.symm hgne))
                have HTB := hid ((HTA.out.other HX5.out hgne).below hB5 hgne)
                have hBB : Below w.heap.size w wB := hb5.trans (hB5.mono hb5.size)
                have e5 : ∀ o, wB.cell? ⟨h10, o, none⟩ = wd.cell? ⟨h10, o, none⟩ := fun o => (hB5.cell (p := ⟨h10, o, none⟩) (by dsimp only; omega)).trans ((HX5.out.cell (by omega) hhx).trans (E4.out o))
                have cS : wB.cell? ⟨gx, 1, none⟩ = some (.int .i64 S) := by obtain ⟨_, _, t, _⟩ := HXB.out; exact t.c1
                have hBs := hB5.size
                have E5 := hid e5
                clear e5 va0 va1
                have qn := neq_pt
                cases FIN with
                | true =>
                  go_wp2_with fail
                  go_meet
                  case rel => exact ⟨p', HTB, HXB, HOK, hid (by rw [E5.out, E5.out, E5.out, E5.out]; exact HM2.out), by omega, hid ((hB5.block _ (by omega)).trans ((HX5.out.block _ (by omega) hgx1).trans ((hA4.block _ (by omega)).trans ((HX4.out.block _ hwd2 hgw1).trans HO2.out)))), by omega, hBB⟩
                | false =>
                  go_wp2_with fail
                  go_meet
                  case rel => exact ⟨p', HTB, HXB, HOK, hid (by rw [E5.out, E5.out, E5.out, E5.out]; exact HM2.out), by omega, hid ((hB5.block _ (by omega)).trans ((HX5.out.block _ (by omega) hgx1).trans ((hA4.block _ (by omega)).trans ((HX4.out.block _ hwd2 hgw1).trans HO2.out)))), by omega, hBB⟩
            case rest =>
              obtain ⟨q, HTq, HXq, HQ, HMq, hlq, HOq, hwq, hBq⟩ := hcut
              generalize wc = wq at *
              clear hT2 hX2 HM2 HY HW8 HST kk hB2 hh10 hTl hXl hl10 hs2 HO2
              have C18 := hid (tk_target HQ.out HTq.out)
              have hsq := hBq.size
              go_upto_region 21 with (first
                | (go_at_call 18; (with_reducible refine (C18.out).mono ?_); rintro e w6 ⟨rfl, hb6⟩; have hs6 := hb6.size; have HB6 := hid hb6; clear hb6))
              obtain ⟨wB, hwB⟩ : ∃ wB, wB = w6.alloc (.cells #[.int .i64 q.ax, .int .i64 q.ay] 34) := ⟨_, rfl⟩
              have hB5 : Below w6.heap.size w6 wB := by rw [hwB]; exact (Below.refl _ _).alloc (Nat.le_refl _) _
              have vb0 : wB.cell? ⟨w6.heap.size, 0, none⟩ = some (.int .i64 q.ax) := by rw [hwB]; go_simp <;> simp
              have vb1 : wB.cell? ⟨w6.heap.size, 1, none⟩ = some (.int .i64 q.ay) := by rw [hwB]; go_simp <;> simp
              have hvl : w6.heap.size < wB.heap.size := by rw [hwB]; simp
              rw [← hwB]
              clear hwB
              have hBq2 : Below wq.heap.size wq wB := HB6.out.trans (hB5.mono hs6)
              have hsB := hBq2.size
              have HTB := hid (HTq.out.below hBq2 hgne)
              have HXB := hid (HXq.out.below hBq2 (Ne.symm hgne))
              have hXBl := HXB.out.lt
              obtain ⟨m0, m1, m2, m3⟩ := id HMq.out
              have hxx : wB.cell? ⟨gx, 8, none⟩ = some (.int .i64 q.pr) ∧ wB.cell? ⟨gx, 9, none⟩ = some (.int .i64 q.ax) ∧ wB.cell? ⟨gx, 10, none⟩ = some (.int .i64 q.ay) ∧ wB.cell? ⟨gx, 11, none⟩ = some (.bool q.ai) := by
                obtain ⟨_, _, t, _⟩ := HXB.out
                exact ⟨t.c8, t.c9, t.c10, t.c11⟩
              obtain ⟨t8, t9, t10, t11⟩ := hxx
              have g8 : ∀ z : Later wB, z.val.cell? ⟨gx, 8, none⟩ = some (.int .i64 q.pr) := fun z => (z.cell hXBl).trans t8
              have g9 : ∀ z : Later wB, z.val.cell? ⟨gx, 9, none⟩ = some (.int .i64 q.ax) := fun z => (z.cell hXBl).trans t9
              have g10 : ∀ z : Later wB, z.val.cell? ⟨gx, 10, none⟩ = some (.int .i64 q.ay) := fun z => (z.cell hXBl).trans t10
              have g11 : ∀ z : Later wB, z.val.cell? ⟨gx, 11, none⟩ = some (.bool q.ai) := fun z => (z.cell hXBl).trans t11
              have gp0 : ∀ z : Later wB, z.val.cell? ⟨w6.heap.size, 0, none⟩ = some (.int .i64 q.ax) := fun z => (z.cell hvl).trans vb0
              have gp1 : ∀ z : Later wB, z.val.cell? ⟨w6.heap.size, 1, none⟩ = some (.int .i64 q.ay) := fun z => (z.cell hvl).trans vb1
              have gm0 : ∀ z : Later wB, z.val.cell? ⟨h10, 0, none⟩ = some (.int .i64 st.x) := fun z => (z.cell (by omega)).trans ((hBq2.cell (p := ⟨h10, 0, none⟩) hlq).trans m0)
              have gm1 : ∀ z : Later wB, z.val.cell? ⟨h10, 1, none⟩ = some (.int .i64 st.y) := fun z => (z.cell (by omega)).trans ((hBq2.cell (p := ⟨h10, 1, none⟩) hlq).trans m1)
              clear t8 t9 t10 t11 vb0 vb1 m0 m1 m2 m3
              have C19 := hid (fun (z : Later wB) => tk_progress (HTB.out.below z.ok hgne))
              have C20 := hid (fun (z : Later wB) => tk_dev (px := st.x) (py := st.y) HQ.out (HTB.out.below z.ok hgne) (by omega) (by omega) (by omega) (by omega))
              have C21 := hid (fun (z : Later wB) => tk_rdev (px := st.x) (py := st.y) HQ.out (HXB.out.below z.ok (Ne.symm hgne)) (by omega) (by omega) (by omega) (by omega))
              have qn := neq_pt
              generalize q.ai = AI at *
              generalize q.ax = AX at *
              generalize q.ay = AY at *
              generalize nD q st.x st.y = DD at *
              generalize q.pr = PR at *
              cases AI with
              | true =>
                refine wp_region_later (w0 := wB) (Below.refl _ _) (by kernel_rfl) (by kernel_rfl) ?_
                repeat (go_big_quiet_step ((first | (go_at_call 19; with_reducible exact calls_later_same (C19.out _)) | (go_at_call 20; with_reducible exact calls_later (C20.out _)) | (go_at_call 21; with_reducible exact calls_later (C21.out _)))))
                refine wpQuiet_nil ?_
                intro _ hw'
                obtain ⟨y, hw''⟩ := hw'
                subst hw''
                go_wp2_with fail
                go_roundw
                case rel => exact ⟨i + 1, q, by go_num, by omega, hid (HTB.out.below y.ok hgne), hid (HXB.out.below y.ok (Ne.symm hgne)), HQ, hid ((y.ok.block _ (by omega)).trans ((hBq2.block _ hwq).trans HOq.out)), by have := y.ok.size; omega, hBq.trans ((hBq2.trans (y.ok.mono hsB)).mono hsq)⟩
                case measure => simp [intOf]; omega
              | false =>
                refine wp_region_later (w0 := wB) (Below.refl _ _) (by kernel_rfl) (by kernel_rfl) ?_
                repeat (go_big_quiet_step ((first | (go_at_call 19; with_reducible exact calls_later_same (C19.out _)) | (go_at_call 20; with_reducible exact calls_later (C20.out _)) | (go_at_call 21; with_reducible exact calls_later (C21.out _)))))
                refine wpQuiet_nil ?_
                intro _ hw'
                obtain ⟨y, hw''⟩ := hw'
                subst hw''
                go_wp2_with fail
                go_roundw
                case rel => exact ⟨i + 1, q, by go_num, by omega, hid (HTB.out.below y.ok hgne), hid (HXB.out.below y.ok (Ne.symm hgne)), HQ, hid ((y.ok.block _ (by omega)).trans ((hBq2.block _ hwq).trans HOq.out)), by have := y.ok.size; omega, hBq.trans ((hBq2.trans (y.ok.mono hsB)).mono hsq)⟩
                case measure => simp [intOf]; omega
      · obtain rfl : i = slen := by omega
        have hbx5 := HBO.out _ HO.out
        have HBO5 := hid hbx5
        clear hbx5 HT HX HP HO HBO hs ha
        go_upto_region 25 with (first
          | (go_at_call 18; (with_reducible refine (target_nil _).mono ?_); rintro e w6 ⟨rfl, hb6⟩; have hs6 := hb6.size; have HB6 := hid hb6; clear hb6))
        obtain ⟨wB, hwB⟩ : ∃ wB, wB = w6.alloc (.cells #[.int .i64 0, .int .i64 0] 34) := ⟨_, rfl⟩
        have hB5 : Below w6.heap.size w6 wB := by rw [hwB]; exact (Below.refl _ _).alloc (Nat.le_refl _) _
        have hBq2 : Below wr.heap.size wr wB := HB6.out.trans (hB5.mono hs6)
        rw [← hwB]
        clear hwB
        have k5 : wB.cell? ⟨w.heap.size, 5, none⟩ = some (.slice a len cap) := (hBq2.cell (p := ⟨w.heap.size, 5, none⟩) hwl).trans HBO5.out
        have hBB := hB.trans (hBq2.mono hsr)
        go_wp2_with (first
          | (go_at_call 14; (with_reducible refine (replace_nil _ _).mono ?_); rintro e w7 ⟨rfl, rfl⟩)
          | (go_at_call 19; (with_reducible refine (progress_nil _).mono ?_); rintro e w7 ⟨rfl, rfl⟩)
          | (go_at_call 20; (with_reducible refine (deviation_nil _ _ _).mono ?_); rintro e w8 ⟨rfl, hb8⟩; have hs8 := hb8.size)
          | (go_at_call 7; (with_reducible refine (awake_any _).mono ?_); rintro e w9 ⟨rfl, hb9⟩))
        go_ret
        exact ⟨rfl, hBB.trans ((hb8.trans (hb9.mono hs8)).mono hBB.size)⟩
end Go.Proofs.Ytdcclpdnnhaeoaa
