/- The law TrackerPlays, for a path that is refused. -/
import Derived.Test.YtdcclpdnnhaeoaaL5w
namespace Go.Proofs.Ytdcclpdnnhaeoaa
open Go.RowKit
set_option linter.unusedVariables false
set_option linter.unusedSimpArgs false
set_option maxHeartbeats 16000000 in
set_option maxRecDepth 100000 in
theorem plays_err (n0 n1 n2 ah tl : Int) (a : Option Addr) (len cap : Nat) (X Y : Nat → Int) (sa : Option Addr) (slen scap : Nat) (F : Nat → Stp) (h0 : slen ≤ 40) (h : len ≤ 40) (m1 : 0 ≤ n0) (m2 : n0 ≤ 255) (m3 : 0 ≤ n1) (m4 : n1 ≤ 255) (m5 : 0 ≤ n2) (m6 : n2 ≤ 255) (w : World) (ha : Hid (Wants w a len X Y)) (hE : rnewE (pchk len X Y) ah tl ≠ 0) : Calls Try.prog 5 #[.agg #[.int .u8 n0, .int .u8 n1, .int .u8 n2, .int .i64 ah, .int .i64 tl, .slice a len cap], .slice sa slen scap] w fun e w' => e = .returned (.bool true) ∧ Below w.heap.size w w' := by
  have hlI : (len : Int) ≤ 40 := by omega
  have hsI : (slen : Int) ≤ 40 := by omega
  have hL := hid (fun w => limits_any n0 n1 n2 m1 m2 m3 m4 m5 m6 w)
  have q1 := Int.emod_nonneg n1 (show n0 + 1 ≠ 0 by omega)
  have q2 := Int.emod_lt_of_pos n1 (show 0 < n0 + 1 by omega)
  have q3 := Int.emod_nonneg n2 (show n0 + 1 ≠ 0 by omega)
  have q4 := Int.emod_lt_of_pos n2 (show 0 < n0 + 1 by omega)
  clear m1 m2 m3 m4 m5 m6 q1 q2 q3 q4
  generalize n1 % (n0 + 1) + 1 = A at *
  generalize n2 % (n0 + 1) + 1 = B at *
  generalize n0 + 1 = S at *
  have hB1 : Below w.heap.size w (w.alloc (.cells #[.int .u8 n0, .int .u8 n1, .int .u8 n2, .int .i64 ah, .int .i64 tl, .slice a len cap] 25)) := (Below.refl _ _).alloc (Nat.le_refl _) _
  have hNE : newE (pchk len X Y) S A B 0 0 ah tl = rnewE (pchk len X Y) ah tl := by unfold newE; rw [if_neg hE]
  have HN := hid (fun (w' : World) (h : Below w.heap.size w w') => new_err a len cap (pchk len X Y) S A B 0 0 ah tl (by rw [hNE]; exact hE) w' (hid (fun w2 h2 => pcheck_any a len cap X Y w2 (hid (wants_below ha.out (h.trans (h2.mono h.size)))))))
  rw [hNE] at HN
  have HR := hid (fun (w' : World) (h : Below w.heap.size w w') => rnew_err a len cap (pchk len X Y) S A B 0 0 ah tl hE w' (hid (fun w2 h2 => rpath_any a len cap X Y w2 (hid (wants_below ha.out (h.trans (h2.mono h.size)))))))
  clear hNE
  generalize rnewE (pchk len X Y) ah tl = E at *
  have hE' : (E == 0) = false := by simpa using hE
  have HBX : Hid (∀ w', Below (w.alloc (.cells #[.int .u8 n0, .int .u8 n1, .int .u8 n2, .int .i64 ah, .int .i64 tl, .slice a len cap] 25)).heap.size (w.alloc (.cells #[.int .u8 n0, .int .u8 n1, .int .u8 n2, .int .i64 ah, .int .i64 tl, .slice a len cap] 25)) w' → w'.cell? ⟨w.heap.size, 0, none⟩ = some (.int .u8 n0) ∧ w'.cell? ⟨w.heap.size, 1, none⟩ = some (.int .u8 n1) ∧ w'.cell? ⟨w.heap.size, 2, none⟩ = some (.int .u8 n2) ∧ w'.cell? ⟨w.heap.size, 3, none⟩ = some (.int .i64 ah) ∧ w'.cell? ⟨w.heap.size, 4, none⟩ = some (.int .i64 tl) ∧ w'.cell? ⟨w.heap.size, 5, none⟩ = some (.slice a len cap)) := hid (fun w' hb => by
    refine ⟨?_, ?_, ?_, ?_, ?_, ?_⟩ <;> exact (hb.cell (by simp)).trans (by simp [go_sem]))
  go_enter Try.func5, Try.ntmps5
  go_upto_region 3 with fail
  obtain ⟨k0, k1, k2, k3, k4, k5⟩ := HBX.out _ (Below.refl _ _)
  go_region_held3 (fun w' => w'.cell? ⟨w.heap.size, 0, none⟩ = some (.int .u8 n0) ∧ w'.cell? ⟨w.heap.size, 1, none⟩ = some (.int .u8 n1) ∧ w'.cell? ⟨w.heap.size, 2, none⟩ = some (.int .u8 n2) ∧ w'.cell? ⟨w.heap.size, 3, none⟩ = some (.int .i64 ah) ∧ w'.cell? ⟨w.heap.size, 4, none⟩ = some (.int .i64 tl) ∧ w'.cell? ⟨w.heap.size, 5, none⟩ = some (.slice a len cap)) (first | go_keep | (exact HBX.out _ (by (repeat' (first | assumption | exact Below.refl _ _ | refine Below.drew ?_ | refine Below.alloc ?_ ?_ _ | (simp; done) | (simp; omega))))))
    (first
      | (go_at_call 13; (with_reducible refine (hL.out _).mono ?_); rintro e w2 ⟨rfl, hb2⟩; have hb2' : Below (w.alloc (.cells #[.int .u8 n0, .int .u8 n1, .int .u8 n2, .int .i64 ah, .int .i64 tl, .slice a len cap] 25)).heap.size (w.alloc (.cells #[.int .u8 n0, .int .u8 n1, .int .u8 n2, .int .i64 ah, .int .i64 tl, .slice a len cap] 25)) w2 := (Below.drew (Below.refl _ _)).trans hb2; have HB2 := hid hb2')
      | (go_at_call 8; (with_reducible refine (HN.out _ (hB1.trans (HB2.out.mono (by simp)))).mono ?_); rintro e w3 ⟨rfl, hb3⟩; have hb3' := HB2.out.trans (hb3.mono HB2.out.size); have HB3 := hid hb3'))
  have hBw3 : Below w.heap.size w w3 := hB1.trans (HB3.out.mono (by simp))
  have HBX3 := hid (fun (w' : World) (hb : Below w3.heap.size w3 w') => HBX.out w' (HB3.out.trans (hb.mono HB3.out.size)))
  obtain ⟨k0, k1, k2, k3, k4, k5⟩ := HBX3.out _ (Below.refl _ _)
  go_upto_region 4 with fail
  go_cut [7, 8] (fun s7 s8 wq => s8 = .int .i64 E ∧ Below w3.heap.size w3 wq)
  case first =>
    go_region_held3 (fun w' => w'.cell? ⟨w.heap.size, 0, none⟩ = some (.int .u8 n0) ∧ w'.cell? ⟨w.heap.size, 1, none⟩ = some (.int .u8 n1) ∧ w'.cell? ⟨w.heap.size, 2, none⟩ = some (.int .u8 n2) ∧ w'.cell? ⟨w.heap.size, 3, none⟩ = some (.int .i64 ah) ∧ w'.cell? ⟨w.heap.size, 4, none⟩ = some (.int .i64 tl) ∧ w'.cell? ⟨w.heap.size, 5, none⟩ = some (.slice a len cap)) (first | (with_reducible refine HBX3.out _ ?_; (repeat' (first | (with_reducible exact HB5.out) | (with_reducible exact HB4.out) | (with_reducible exact Below.refl _ _) | (with_reducible refine Below.drew ?_) | (with_reducible refine Below.setCell ?_ ?_ _) | (with_reducible refine Below.alloc ?_ ?_ _) | (with_reducible exact HB5.out.size) | (with_reducible exact HB4.out.size) | (dsimp only; omega) | (simp; done) | (simp; omega) | (rw [alloc_size]; exact Nat.le_succ_of_le HB4.out.size))); done) | go_keep)
      (first
        | (go_at_call 13; (with_reducible refine (hL.out _).mono ?_); rintro e w4 ⟨rfl, hb4⟩
           have HB4 : Hid (Below w3.heap.size w3 w4) := hid (by (with_reducible refine Below.trans ?_ (hb4.mono ?_)) <;> (repeat' (first | (with_reducible exact HB4.out) | (with_reducible exact Below.refl _ _) | (with_reducible refine Below.drew ?_) | (with_reducible refine Below.setCell ?_ ?_ _) | (with_reducible refine Below.alloc ?_ ?_ _) | (with_reducible exact HB4.out.size) | exact Nat.le_refl _ | (dsimp only; omega) | (simp; done) | (simp; omega) | (rw [alloc_size]; exact Nat.le_succ_of_le HB4.out.size))))
           first | (have HZ4 := hid (ZB.below (zb_alloc _) hb4)) | (have HZ4 := hid (ZB.below (ZB.drew (zb_alloc _)) hb4)) | skip)
        | (go_at_call 9; (with_reducible refine (HR.out _ (hBw3.trans (Below.mono (B := w3.heap.size) (by (repeat' (first | (with_reducible exact HB4.out) | (with_reducible exact Below.refl _ _) | (with_reducible refine Below.drew ?_) | (with_reducible refine Below.setCell ?_ ?_ _) | (with_reducible refine Below.alloc ?_ ?_ _) | (with_reducible exact HB4.out.size) | exact Nat.le_refl _ | (dsimp only; omega) | (simp; done) | (simp; omega) | (rw [alloc_size]; exact Nat.le_succ_of_le HB4.out.size)))) (by have := hBw3.size; omega)))).mono ?_); rintro e w5 ⟨rfl, hb5⟩
           have HB5 : Hid (Below w3.heap.size w3 w5) := hid (by (with_reducible refine Below.trans ?_ (hb5.mono ?_)) <;> (repeat' (first | (with_reducible exact HB4.out) | (with_reducible exact Below.refl _ _) | (with_reducible refine Below.drew ?_) | (with_reducible refine Below.setCell ?_ ?_ _) | (with_reducible refine Below.alloc ?_ ?_ _) | (with_reducible exact HB4.out.size) | exact Nat.le_refl _ | (dsimp only; omega) | (simp; done) | (simp; omega) | (rw [alloc_size]; exact Nat.le_succ_of_le HB4.out.size))))
           first | (have HZ5 := hid (ZB.below HZ4.out hb5)) | (have HZ5 := hid (ZB.below (ZB.drew HZ4.out) hb5)) | (have HZ5 := hid (ZB.below (zb_alloc _) hb5)) | (have HZ5 := hid (ZB.below (ZB.drew (zb_alloc _)) hb5)) | skip
           try (obtain ⟨e0, e1, e2, e3, e4, e5, e6, e7, e8, e9, e10, e11, z0, z1, z2, z3, z4, z5, z6, z7, z8, z9, z10, z11, -⟩ := HZ5.out)))
    · go_wp2_with fail
      go_meet
      case rel => exact ⟨rfl, HB5.out.alloc HB5.out.size _⟩
    · have hg4 := HB4.out.size
      go_wp2_with fail
      go_meet
      case rel => exact ⟨rfl, st12_below HB5.out (by omega) _ _ _ _ _ _⟩
    · go_wp2_with fail
      go_meet
      case rel => exact ⟨rfl, st12_below HB5.out (by omega) _ _ _ _ _ _⟩
  case rest =>
    obtain ⟨rfl, hbx⟩ := hcut
    have hBw : Below w.heap.size w wc := hBw3.trans (hbx.mono (by have := hBw3.size; omega))
    have hbx5 := (HBX3.out _ hbx).2.2.2.2.2
    have HBO5 := hid hbx5
    have hs3 := HB3.out.size
    rw [alloc_size] at hs3
    have hwl : w.heap.size < wc.heap.size := by have := hbx.size; omega
    have hsr := hBw.size
    clear hbx5 HBX3 k0 k1 k2 k3 k4 k5 HN HR HB3 HB2 hL ha
    have hcs : slen = 0 ∨ 0 < slen := by omega
    rcases hcs with hcs | hcs
    all_goals
      (have hcI : ((0 : Int) < (slen : Int)) = (0 < slen) := by simp <;> omega
       go_upto_region 8 with fail
       go_loopw [9, 10, 11, 12, 13, 14, 15, 16] (fun s9 s10 s11 s12 s13 s14 s15 s16 wr => s9 = .int .i64 0 ∧ Below wc.heap.size wc wr) (fun _ _ _ _ _ _ _ _ _ => 0)
       case atStart => exact ⟨rfl, Below.refl _ _⟩
       case round =>
         obtain ⟨rfl, hB⟩ := hrel
         have hB' := hB
         go_upto_region 25 with (first
           | (go_at_call 18; (with_reducible refine (target_nil _).mono ?_); rintro e w6 ⟨rfl, hb6⟩; have hs6 := hb6.size; have HB6 := hid hb6; clear hb6))
         obtain ⟨wB, hwB⟩ : ∃ wB, wB = w6.alloc (.cells #[.int .i64 0, .int .i64 0] 34) := ⟨_, rfl⟩
         have hB5 : Below w6.heap.size w6 wB := by rw [hwB]; exact (Below.refl _ _).alloc (Nat.le_refl _) _
         have hBq2 : Below wr.heap.size wr wB := HB6.out.trans (hB5.mono hs6)
         rw [← hwB]
         clear hwB
         have hq5 := hB.trans (hBq2.mono hB.size)
         have k5 : wB.cell? ⟨w.heap.size, 5, none⟩ = some (.slice a len cap) := (hq5.cell (p := ⟨w.heap.size, 5, none⟩) hwl).trans HBO5.out
         have hBB := hBw.trans (hq5.mono hsr)
         go_wp2_with (first
           | (go_at_call 14; (with_reducible refine (replace_nil _ _).mono ?_); rintro e w7 ⟨rfl, rfl⟩)
           | (go_at_call 19; (with_reducible refine (progress_nil _).mono ?_); rintro e w7 ⟨rfl, rfl⟩)
           | (go_at_call 20; (with_reducible refine (deviation_nil _ _ _).mono ?_); rintro e w8 ⟨rfl, hb8⟩; have hs8 := hb8.size)
           | (go_at_call 7; (with_reducible refine (awake_any _).mono ?_); rintro e w9 ⟨rfl, hb9⟩))
         go_ret
         exact ⟨rfl, hBB.trans ((hb8.trans (hb9.mono hs8)).mono hBB.size)⟩)
end Go.Proofs.Ytdcclpdnnhaeoaa
