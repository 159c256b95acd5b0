/- Walks: Deviation, the tracker's and the reference's. -/
import Derived.Test.YtdcclpdnnhaeoaaWt
import Derived.Lib.MinMax
namespace Go.Proofs.Ytdcclpdnnhaeoaa
open Go.RowKit
set_option linter.unusedVariables false
set_option linter.unusedSimpArgs false
/-- the least of b and of n numbers from lo on -/
def mnF (D : Nat → Int) (b : Int) (lo : Nat) : Nat → Int
  | 0 => b
  | k + 1 => min (mnF D b lo k) (D (lo + k))
theorem mnF_le (D : Nat → Int) (b : Int) (lo : Nat) : ∀ n, mnF D b lo n ≤ b ∧ (∀ i, i < n → mnF D b lo n ≤ D (lo + i)) ∧ (mnF D b lo n = b ∨ ∃ i, i < n ∧ mnF D b lo n = D (lo + i))
  | 0 => ⟨Int.le_refl _, fun i h => absurd h (by omega), Or.inl rfl⟩
  | n + 1 => by
    obtain ⟨h1, h2, h3⟩ := mnF_le D b lo n
    show min (mnF D b lo n) (D (lo + n)) ≤ b ∧ (∀ i, i < n + 1 → min (mnF D b lo n) (D (lo + n)) ≤ D (lo + i)) ∧ (min (mnF D b lo n) (D (lo + n)) = b ∨ ∃ i, i < n + 1 ∧ min (mnF D b lo n) (D (lo + n)) = D (lo + i))
    refine ⟨by omega, fun i hi => ?_, ?_⟩
    · by_cases e : i = n
      · subst e; omega
      · have := h2 i (by omega); omega
    · rcases Int.lt_or_le (D (lo + n)) (mnF D b lo n) with h | h
      · exact Or.inr ⟨n, by omega, by omega⟩
      · rw [Int.min_eq_left h]
        rcases h3 with h3 | ⟨i, hi, h3⟩
        · exact Or.inl h3
        · exact Or.inr ⟨i, by omega, h3⟩
theorem mnF_eq {D : Nat → Int} {lo n a b : Nat} (ha : a < n) (hb : b < n) : mnF D (D (lo + a)) lo n = mnF D (D (lo + b)) lo n := by
  obtain ⟨p1, p2, p3⟩ := mnF_le D (D (lo + a)) lo n
  obtain ⟨q1, q2, q3⟩ := mnF_le D (D (lo + b)) lo n
  have e1 : mnF D (D (lo + a)) lo n ≤ mnF D (D (lo + b)) lo n := by
    rcases q3 with q3 | ⟨i, hi, q3⟩
    · rw [q3]; exact p2 b hb
    · rw [q3]; exact p2 i hi
  have e2 : mnF D (D (lo + b)) lo n ≤ mnF D (D (lo + a)) lo n := by
    rcases p3 with p3 | ⟨i, hi, p3⟩
    · rw [p3]; exact q2 a ha
    · rw [p3]; exact q2 i hi
  omega
set_option maxHeartbeats 8000000 in
set_option maxRecDepth 100000 in
theorem deviation_any (g g2 len cap pr kl : Nat) (px py : Int) (X Y : Nat → Int) {S A B H M ah tl ax ay : Int} {ai : Bool} (hlm : len ≤ 4096) (hpr : pr < len) (hcap : len ≤ cap) (hkl : kl + 1 = len) (hr : Hid (∀ i, i < len → rchB (X i) (Y i) = true)) (p1 : -1048576 ≤ px) (p2 : px ≤ 1048576) (p3 : -1048576 ≤ py) (p4 : py ≤ 1048576)
    (w : World) (T : Trk w g (.slice (some ⟨g2, 0, none⟩) len cap) S A B H M ah tl pr ax ay ai) (hg2 : g2 < w.heap.size) (hX : Hid (∀ i, i < len → w.cell? ⟨g2, i * 2, none⟩ = some (.int .i64 (X i)) ∧ w.cell? ⟨g2, i * 2 + 1, none⟩ = some (.int .i64 (Y i)))) :
    Calls Try.prog 20 #[.pointer (some ⟨g, 0, none⟩), pt px py] w fun e w' => e = .returned (.int .i64 (mnF (dst px py X Y) (dst px py X Y kl) pr (len - pr))) ∧ Below w.heap.size w w' := by
  have hgl := T.lt
  have c0 := T.c0
  have c8 := T.c8
  have hlN : (len : Int) ≤ 4096 := by omega
  have hl0 : 0 < (len : Int) := by omega
  have h0' : ((len : Int) == 0) = false := by simp; omega
  have hprI : (pr : Int) < (len : Int) := by omega
  have hpr0 : (0 : Int) ≤ (pr : Int) := by omega
  have hprl : (pr : Int) ≤ (len : Int) := by omega
  have hcapI : (len : Int) ≤ (cap : Int) := by omega
  have hne : ¬ (cap = pr) := by omega
  obtain ⟨n, hn⟩ : ∃ n, n = len - pr := ⟨_, rfl⟩
  have hnI : (len : Int) - (pr : Int) = (n : Int) := by omega
  have hn' : len - pr = n := hn.symm
  have hn0 : 0 < n := by omega
  clear T hn
  have HDL := hid (fun w => dst_call (i := kl) (X := X) (Y := Y) p1 p2 p3 p4 (hr.out kl (by omega)) w)
  have HDI := hid (fun (i : Nat) (hi : i < len) w => dst_call (i := i) (X := X) (Y := Y) p1 p2 p3 p4 (hr.out i hi) w)
  have HLA := hid (fun (w' : World) (hb : Below w.heap.size w w') => last_any g g2 len cap kl (X kl) (Y kl) (by omega) hlm hkl w' (Nat.lt_of_lt_of_le hgl hb.size) (Nat.lt_of_lt_of_le hg2 hb.size) ((hb.cell hgl).trans c0) ((hb.cell hg2).trans (hX.out kl (by omega)).1) ((hb.cell hg2).trans (hX.out kl (by omega)).2))
  have hMN : Hid (mnF (dst px py X Y) (dst px py X Y kl) pr 0 = dst px py X Y kl) := hid rfl
  have hB1 : Below w.heap.size w (w.alloc (.cells #[.int .i64 px, .int .i64 py] 34)) := (Below.refl _ _).alloc (Nat.le_refl _) _
  go_enter Try.func20, Try.ntmps20
  go_upto_region 3 with fail
  have q0 : ∀ (z : Later (w.alloc (.cells #[.int .i64 px, .int .i64 py] 34))), z.val.cell? ⟨g, 0, none⟩ = some (.slice (some ⟨g2, 0, none⟩) len cap) := fun z => (z.cell (by simp; omega)).trans ((hB1.cell hgl).trans c0)
  have q8 : ∀ (z : Later (w.alloc (.cells #[.int .i64 px, .int .i64 py] 34))), z.val.cell? ⟨g, 8, none⟩ = some (.int .i64 pr) := fun z => (z.cell (by simp; omega)).trans ((hB1.cell hgl).trans c8)
  have qx : ∀ (z : Later (w.alloc (.cells #[.int .i64 px, .int .i64 py] 34))), z.val.cell? ⟨w.heap.size, 0, none⟩ = some (.int .i64 px) := fun z => (z.cell (by simp)).trans (by simp [go_sem])
  have qy : ∀ (z : Later (w.alloc (.cells #[.int .i64 px, .int .i64 py] 34))), z.val.cell? ⟨w.heap.size, 1, none⟩ = some (.int .i64 py) := fun z => (z.cell (by simp)).trans (by simp [go_sem])
  clear c0 c8
  have HL2 := hid (fun (z : Later (w.alloc (.cells #[.int .i64 px, .int .i64 py] 34))) => HLA.out z.val (hB1.trans (z.ok.mono (by simp))))
  refine wp_region_later (w0 := (w.alloc (.cells #[.int .i64 px, .int .i64 py] 34))) (Below.refl _ _) (by kernel_rfl) (by kernel_rfl) ?_
  repeat (go_big_quiet_step ((first | (go_at_call 31; with_reducible exact calls_later (HL2.out _)) | (go_at_call 30; with_reducible exact calls_later (HDL.out _)))))
  refine wpQuiet_nil ?_
  intro _ hw'
  obtain ⟨y, hw''⟩ := hw'
  subst hw''
  go_upto_region 4 with fail
  have hsy := y.ok.size
  rw [alloc_size] at hsy
  have r0 : ∀ (z : Later y.val), z.val.cell? ⟨g, 0, none⟩ = some (.slice (some ⟨g2, 0, none⟩) len cap) := fun z => (z.cell (by omega)).trans (q0 y)
  have r8 : ∀ (z : Later y.val), z.val.cell? ⟨g, 8, none⟩ = some (.int .i64 pr) := fun z => (z.cell (by omega)).trans (q8 y)
  refine wp_region_later (w0 := y.val) (Below.refl _ _) (by kernel_rfl) (by kernel_rfl) ?_
  repeat (go_big_quiet_step (fail))
  refine wpQuiet_nil ?_
  intro _ hw'
  obtain ⟨y2, hw''⟩ := hw'
  subst hw''
  have hby : Below w.heap.size w y2.val := hB1.trans ((y.ok.trans (y2.ok.mono y.ok.size)).mono (by simp))
  have hsy2 := y2.ok.size
  have x0 : y2.val.cell? ⟨w.heap.size, 0, none⟩ = some (.int .i64 px) := (y2.cell (by omega)).trans (qx y)
  have x1 : y2.val.cell? ⟨w.heap.size, 1, none⟩ = some (.int .i64 py) := (y2.cell (by omega)).trans (qy y)
  have HX0 := hid x0
  have HX1 := hid x1
  clear q0 q8 qx qy r0 r8 x0 x1 HL2 HLA HDL
  obtain ⟨D, hD⟩ : ∃ D, D = dst px py X Y := ⟨_, rfl⟩
  rw [← hD] at hMN
  have HDD := hid (fun i => (congrFun hD i).symm)
  have HDE := hid hD
  simp only [← hD]
  clear hD
  have hnB : (n : Int) ≤ 4096 := by omega
  go_upto_region 5 with fail
  go_loopw [5, 7, 36] (fun s5 s7 s36 wr => ∃ k : Nat, s36 = .int .i64 k ∧ k ≤ n ∧ s5 = .int .i64 (mnF D (D kl) pr k) ∧ Below y2.val.heap.size y2.val wr) (fun _ _ s36 _ => n - (intOf s36).toNat)
  case atStart => exact ⟨0, rfl, Nat.zero_le _, rfl, Below.refl _ _⟩
  case round =>
    obtain ⟨k, rfl, hk, rfl, hb⟩ := hrel
    have hsr := hb.size
    have hbr := hby.trans (hb.mono hby.size)
    by_cases hkT : k < n
    · obtain ⟨e0, e1⟩ := hX.out (pr + k) (by omega)
      rw [show (pr + k) * 2 = pr * 2 + k * 2 from by omega] at e0 e1
      have c0 : wr.cell? ⟨g2, pr * 2 + k * 2, none⟩ = some (.int .i64 (X (pr + k))) := (hbr.cell hg2).trans e0
      have c1 : wr.cell? ⟨g2, pr * 2 + k * 2 + 1, none⟩ = some (.int .i64 (Y (pr + k))) := (hbr.cell hg2).trans e1
      have z0 : wr.cell? ⟨w.heap.size, 0, none⟩ = some (.int .i64 px) := (hb.cell (by dsimp only; omega)).trans HX0.out
      have z1 : wr.cell? ⟨w.heap.size, 1, none⟩ = some (.int .i64 py) := (hb.cell (by dsimp only; omega)).trans HX1.out
      clear e0 e1
      have hlt : w.heap.size < wr.heap.size := by omega
      have HC : Hid (∀ w, Calls Try.prog 30 #[pt px py, pt (X (pr + k)) (Y (pr + k))] w fun e w' => e = .returned (.int .i64 (D (pr + k))) ∧ Below w.heap.size w w') := hid (fun w => by have := HDI.out (pr + k) (by omega) w; rwa [HDD.out] at this)
      have HM : Hid (mnF D (D kl) pr (k + 1) = min (mnF D (D kl) pr k) (D (pr + k))) := hid rfl
      have hkI : (k : Int) < (n : Int) := by omega
      have hkI0 : (0 : Int) ≤ (k : Int) := by omega
      generalize mnF D (D kl) pr k = MK at *
      generalize D (pr + k) = DK at *
      generalize X (pr + k) = XK at *
      generalize Y (pr + k) = YK at *
      go_wp2_with (first
        | (go_at_call 30; (with_reducible refine (HC.out _).mono ?_); rintro e w3 ⟨rfl, hb3⟩))
      go_roundw
      case rel => exact ⟨k + 1, by go_num, by omega, by rw [HM.out], (hb.alloc hsr _).trans (hb3.mono (by rw [alloc_size]; omega))⟩
      case measure => simp [intOf]; omega
    · obtain rfl : k = n := by omega
      go_wp2_with fail
      go_ret
      refine ⟨?_, hbr⟩
      rw [hn', ← HDE.out]
      rfl
/-- what the reference holds for the least, -1 at first -/
def rbs (D : Nat → Int) (pr k : Nat) : Int := if k = 0 then -1 else mnF D (D pr) pr k
set_option maxHeartbeats 8000000 in
set_option maxRecDepth 100000 in
theorem rdeviation_any (g g2 len cap pr : Nat) (px py : Int) (X Y : Nat → Int) {S A B H M ah tl ax ay : Int} {ai : Bool} (hlm : len ≤ 4096) (hpr : pr < len) (hr : Hid (∀ i, i < len → rchB (X i) (Y i) = true)) (p1 : -1048576 ≤ px) (p2 : px ≤ 1048576) (p3 : -1048576 ≤ py) (p4 : py ≤ 1048576)
    (w : World) (T : Trk w g (.slice (some ⟨g2, 0, none⟩) len cap) S A B H M ah tl pr ax ay ai) (hg2 : g2 < w.heap.size) (hX : Hid (∀ i, i < len → w.cell? ⟨g2, i * 2, none⟩ = some (.int .i64 (X i)) ∧ w.cell? ⟨g2, i * 2 + 1, none⟩ = some (.int .i64 (Y i)))) :
    Calls Try.prog 21 #[.pointer (some ⟨g, 0, none⟩), pt px py] w fun e w' => e = .returned (.int .i64 (mnF (dst px py X Y) (dst px py X Y pr) pr (len - pr))) ∧ Below w.heap.size w w' := by
  have hgl := T.lt
  have c0 := T.c0
  have c8 := T.c8
  have hlN : (len : Int) ≤ 4096 := by omega
  have hl0 : 0 < (len : Int) := by omega
  have hprI : (pr : Int) < (len : Int) := by omega
  have hpr0 : (0 : Int) ≤ (pr : Int) := by omega
  clear T
  have HDI := hid (fun (i : Nat) (hi : i < len) w => rdst_call (i := i) (X := X) (Y := Y) p1 p2 p3 p4 (hr.out i hi) w)
  have HDB := hid (fun (i : Nat) (hi : i < len) => dst_bnd (X := X) (Y := Y) p1 p2 p3 p4 (hr.out i hi))
  have hB1 : Below w.heap.size w (w.alloc (.cells #[.int .i64 px, .int .i64 py] 34)) := (Below.refl _ _).alloc (Nat.le_refl _) _
  have HC0 := hid ((hB1.cell hgl).trans c0)
  have HC8 := hid ((hB1.cell hgl).trans c8)
  have k8 := HC8.out
  clear c0 c8
  obtain ⟨D, hD⟩ : ∃ D, D = dst px py X Y := ⟨_, rfl⟩
  have HDD := hid (fun i => (congrFun hD i).symm)
  have HDE := hid hD
  simp only [← hD]
  clear hD
  go_enter Try.func21, Try.ntmps21
  go_upto_region 3 with fail
  clear k8
  go_loopw [5, 6, 7] (fun s5 s6 s7 wr => ∃ j : Nat, s6 = .int .i64 j ∧ pr ≤ j ∧ j ≤ len ∧ s5 = .int .i64 (rbs D pr (j - pr)) ∧ Below ((w.alloc (.cells #[.int .i64 px, .int .i64 py] 34))).heap.size ((w.alloc (.cells #[.int .i64 px, .int .i64 py] 34))) wr) (fun _ s6 _ _ => len - (intOf s6).toNat)
  case atStart => exact ⟨pr, rfl, Nat.le_refl _, by omega, by rw [Nat.sub_self]; rfl, Below.refl _ _⟩
  case round =>
    obtain ⟨j, rfl, hj1, hj2, rfl, hb⟩ := hrel
    have hsr := hb.size
    rw [alloc_size] at hsr
    have hbr := hB1.trans (hb.mono (by simp))
    have k0 : wr.cell? ⟨g, 0, none⟩ = some (.slice (some ⟨g2, 0, none⟩) len cap) := (hb.cell (by simp; omega)).trans HC0.out
    have hjI0 : (0 : Int) ≤ (j : Int) := by omega
    have hjB : (j : Int) ≤ 4096 := by omega
    by_cases hjT : j < len
    · obtain ⟨e0, e1⟩ := hX.out j hjT
      have hjI : (j : Int) < (len : Int) := by omega
      have c0 : ∀ z : Later wr, z.val.cell? ⟨g2, j * 2, none⟩ = some (.int .i64 (X j)) := fun z => (z.cell (by omega)).trans ((hbr.cell hg2).trans e0)
      have c1 : ∀ z : Later wr, z.val.cell? ⟨g2, j * 2 + 1, none⟩ = some (.int .i64 (Y j)) := fun z => (z.cell (by omega)).trans ((hbr.cell hg2).trans e1)
      have z0 : ∀ z : Later wr, z.val.cell? ⟨w.heap.size, 0, none⟩ = some (.int .i64 px) := fun z => (z.cell (by omega)).trans ((hb.cell (by simp)).trans (by simp [go_sem]))
      have z1 : ∀ z : Later wr, z.val.cell? ⟨w.heap.size, 1, none⟩ = some (.int .i64 py) := fun z => (z.cell (by omega)).trans ((hb.cell (by simp)).trans (by simp [go_sem]))
      have z2 : ∀ z : Later wr, z.val.cell? ⟨g, 0, none⟩ = some (.slice (some ⟨g2, 0, none⟩) len cap) := fun z => (z.cell (by omega)).trans k0
      clear e0 e1
      have HC : Hid (∀ w, Calls Try.prog 36 #[pt px py, pt (X j) (Y j)] w fun e w' => e = .returned (.int .i64 (D j)) ∧ Below w.heap.size w w') := hid (fun w => by have := HDI.out j hjT w; rwa [HDD.out] at this)
      have hDb := HDB.out j hjT
      rw [HDD.out] at hDb
      have HS : Hid (rbs D pr (j + 1 - pr) = if j = pr then D j else min (rbs D pr (j - pr)) (D j)) := hid (by
        unfold rbs
        by_cases e : j = pr
        · subst e
          rw [if_pos rfl, if_neg (by omega), show j + 1 - j = 0 + 1 from by omega]
          show min (D j) (D (j + 0)) = D j
          rw [Nat.add_zero]
          omega
        · rw [if_neg e, if_neg (by omega), if_neg (by omega), show j + 1 - pr = (j - pr) + 1 from by omega]
          show min (mnF D (D pr) pr (j - pr)) (D (pr + (j - pr))) = _
          rw [show pr + (j - pr) = j from by omega])
      have HN : Hid (j = pr → rbs D pr (j - pr) = -1) := hid (fun e => by rw [e, Nat.sub_self]; rfl)
      have HP : Hid (j ≠ pr → 0 ≤ rbs D pr (j - pr)) := hid (fun e => by
        unfold rbs
        rw [if_neg (by omega)]
        obtain ⟨_, _, h⟩ := mnF_le D (D pr) pr (j - pr)
        rcases h with h | ⟨i, hi, h⟩
        · rw [h, ← HDD.out]; exact (HDB.out pr hpr).1
        · rw [h, ← HDD.out]; exact (HDB.out (pr + i) (by omega)).1)
      go_upto_region 5 with fail
      generalize rbs D pr (j - pr) = RB at *
      generalize D j = DJ at *
      generalize X j = XJ at *
      generalize Y j = YJ at *
      refine wp_region_later (w0 := wr) (Below.refl _ _) (by kernel_rfl) (by kernel_rfl) ?_
      repeat (go_big_quiet_step ((go_at_call 36; with_reducible exact calls_later (HC.out _))))
      refine wpQuiet_nil ?_
      intro _ hw'
      obtain ⟨y, hw''⟩ := hw'
      subst hw''
      clear k0
      by_cases hjp : j = pr
      · have hRB := HN.out hjp
        subst hRB
        go_wp2_with fail
        go_roundw
        case rel => exact ⟨j + 1, by go_num, by omega, by omega, by rw [HS.out, if_pos hjp], hb.trans (y.ok.mono (by rw [alloc_size]; omega))⟩
        case measure => simp [intOf]; omega
      · have hRB := HP.out hjp
        by_cases hd : DJ < RB
        · go_wp2_with fail
          go_roundw
          case rel => exact ⟨j + 1, by go_num, by omega, by omega, by rw [HS.out, if_neg hjp, Int.min_eq_right (by omega)], hb.trans (y.ok.mono (by rw [alloc_size]; omega))⟩
          case measure => simp [intOf]; omega
        · go_wp2_with fail
          go_roundw
          case rel => exact ⟨j + 1, by go_num, by omega, by omega, by rw [HS.out, if_neg hjp, Int.min_eq_left (by omega)], hb.trans (y.ok.mono (by rw [alloc_size]; omega))⟩
          case measure => simp [intOf]; omega
    · obtain rfl : j = len := by omega
      have HE : Hid (rbs D pr (j - pr) = mnF D (D pr) pr (j - pr)) := hid (by unfold rbs; rw [if_neg (by omega)])
      go_wp2_with fail
      go_ret
      refine ⟨?_, hbr⟩
      rw [← HE.out]
      rfl
theorem dev_eq (D : Nat → Int) {pr len kl : Nat} (hpr : pr < len) (hkl : kl + 1 = len) : mnF D (D kl) pr (len - pr) = mnF D (D pr) pr (len - pr) := by
  have := mnF_eq (D := D) (lo := pr) (n := len - pr) (a := kl - pr) (b := 0) (by omega) (by omega)
  rwa [show pr + (kl - pr) = kl from by omega, Nat.add_zero] at this
end Go.Proofs.Ytdcclpdnnhaeoaa
