/- Walks: the reference's Next, on the way. -/
import Derived.Test.YtdcclpdnnhaeoaaWv
namespace Go.Proofs.Ytdcclpdnnhaeoaa
open Go.RowKit
set_option linter.unusedVariables false
set_option linter.unusedSimpArgs false
set_option maxRecDepth 100000 in
set_option maxHeartbeats 16000000 in
theorem rnext_on (g g2 len cap pr : Nat) (px py vx vy : Int) (X Y : Nat → Int) (S A B H M ah tl ax ay : Int) (ai : Bool) (hl : 0 < len) (hlm : len ≤ 4096) (hpr : pr < len) (hr : Hid (∀ i, i < len → rchB (X i) (Y i) = true)) (p1 : -1048576 ≤ px) (p2 : px ≤ 1048576) (p3 : -1048576 ≤ py) (p4 : py ≤ 1048576)
    (s1 : 1 ≤ S) (s2 : S ≤ 4096) (b1 : 1 ≤ B) (b2 : B ≤ 4096) (hgg : g2 ≠ g) (w : World) (T : Hid (Trk w g (.slice (some ⟨g2, 0, none⟩) len cap) S A B H M ah tl pr ax ay ai)) (hg2 : g2 < w.heap.size) (hX : Hid (∀ i, i < len → w.cell? ⟨g2, i * 2, none⟩ = some (.int .i64 (X i)) ∧ w.cell? ⟨g2, i * 2 + 1, none⟩ = some (.int .i64 (Y i))))
    (J : Nat) (hJ : Hid (adv px py X Y len ah (len - pr) pr = J)) (Lf : Int) (kl : Nat) (hkl : kl + 1 = len) (hL : Hid (dst px py X Y kl = Lf)) (hgo : tl < Lf) (ka : Nat) (hka : (ka : Int) = min ((J : Int) + 1) ((len : Int) - 1)) :
    Calls Try.prog 17 #[.pointer (some ⟨g, 0, none⟩), mo px py vx vy] w fun e w' => e = .returned (.tuple #[pt (scl (sqr (X ka - px) (Y ka - py)) (X ka - px) (max (min S (spd Lf B)) 0)) (scl (sqr (X ka - px) (Y ka - py)) (Y ka - py) (max (min S (spd Lf B)) 0)), .bool false]) ∧ Trk w' g (.slice (some ⟨g2, 0, none⟩) len cap) S A B H M ah tl J (X ka) (Y ka) true ∧ Bex g w w' := by
  have hB1 : Below w.heap.size w ((w.alloc (.cells #[.int .i64 px, .int .i64 py, .int .i64 vx, .int .i64 vy] 50)).alloc (.cells #[.int .i64 0, .int .i64 0] 34)) := (((Below.refl _ _).alloc (Nat.le_refl _) _).alloc (by simp) _)
  have HT1 : Hid (Trk ((w.alloc (.cells #[.int .i64 px, .int .i64 py, .int .i64 vx, .int .i64 vy] 50)).alloc (.cells #[.int .i64 0, .int .i64 0] 34)) g (.slice (some ⟨g2, 0, none⟩) len cap) S A B H M ah tl pr ax ay ai) := hid (T.out.below hB1)
  have HW : Hid (∀ i, i < len → ((w.alloc (.cells #[.int .i64 px, .int .i64 py, .int .i64 vx, .int .i64 vy] 50)).alloc (.cells #[.int .i64 0, .int .i64 0] 34)).cell? ⟨g2, i * 2, none⟩ = some (.int .i64 (X i)) ∧ ((w.alloc (.cells #[.int .i64 px, .int .i64 py, .int .i64 vx, .int .i64 vy] 50)).alloc (.cells #[.int .i64 0, .int .i64 0] 34)).cell? ⟨g2, i * 2 + 1, none⟩ = some (.int .i64 (Y i))) := hid (fun i hi => ⟨(hB1.cell hg2).trans (hX.out i hi).1, (hB1.cell hg2).trans (hX.out i hi).2⟩)
  have hglt : g < w.heap.size := T.out.lt
  have hBX : Bex g w ((w.alloc (.cells #[.int .i64 px, .int .i64 py, .int .i64 vx, .int .i64 vy] 50)).alloc (.cells #[.int .i64 0, .int .i64 0] 34)) := Bex.of hB1
  have hlN : (len : Int) ≤ 4096 := by omega
  have hl0 : 0 < (len : Int) := by omega
  clear T hX
  have HKE := hid hka
  have hkl' : ka < len := by omega
  have HKA := hid hkl'
  obtain ⟨xa1, xa2, xa3, xa4⟩ := rchB_true (hr.out ka (by omega))
  have hLf := dst_bnd p1 p2 p3 p4 (hr.out kl (by omega))
  rw [hL.out] at hLf
  obtain ⟨lf1, lf2⟩ := hLf
  have HSP := hid (fun w => rspeed_ok (g := Lf) (b := B) (S := S) (by omega) lf1 b1 b2 (by omega) s2 w)
  have HSB := hid (fun w => rsub_any (X ka) (Y ka) px py (by omega) (by omega) (by omega) (by omega) (by omega) (by omega) (by omega) (by omega) w)
  have HSC := hid (fun w => rscale_any (X ka - px) (Y ka - py) (min S (spd Lf B)) (by omega) (by omega) (by omega) (by omega) w)
  generalize hVX : scl (sqr (X ka - px) (Y ka - py)) (X ka - px) (max (min S (spd Lf B)) 0) = VX at *
  generalize hVY : scl (sqr (X ka - px) (Y ka - py)) (Y ka - py) (max (min S (spd Lf B)) 0) = VY at *
  generalize min S (spd Lf B) = U at *
  clear hVX hVY hka lf1 lf2 xa1 xa2 xa3 xa4
  go_enter Try.func17, Try.ntmps17
  go_upto_block 0 with fail
  go_cut [] (fun wq => Hid (Trk wq g (.slice (some ⟨g2, 0, none⟩) len cap) S A B H M ah tl J ax ay ai) ∧ J < len ∧ Bex g ((w.alloc (.cells #[.int .i64 px, .int .i64 py, .int .i64 vx, .int .i64 vy] 50)).alloc (.cells #[.int .i64 0, .int .i64 0] 34)) wq)
  case first =>
    go_upto_region 1 with fail
    go_loopw [] (fun wr => ∃ j : Nat, j < len ∧ Hid (adv px py X Y len ah (len - j) j = J) ∧ Hid (Trk wr g (.slice (some ⟨g2, 0, none⟩) len cap) S A B H M ah tl j ax ay ai) ∧ Bex g ((w.alloc (.cells #[.int .i64 px, .int .i64 py, .int .i64 vx, .int .i64 vy] 50)).alloc (.cells #[.int .i64 0, .int .i64 0] 34)) wr) (fun wr => len - (intOf ((wr.cell? ⟨g, 8, none⟩).getD undef)).toNat)
    case atStart => exact ⟨pr, hpr, hJ, HT1, Bex.refl _ _⟩
    case round =>
      obtain ⟨j, hj, HA, HT, hb⟩ := hrel
      have hjI : (j : Int) < (len : Int) := by omega
      have hj0 : (0 : Int) ≤ (j : Int) := by omega
      by_cases hm1 : j + 1 < len
      · obtain ⟨m, hm⟩ : ∃ m, m = j + 1 := ⟨_, rfl⟩
        have hmI : (j : Int) + 1 = (m : Int) := by omega
        have hml : (m : Int) < (len : Int) := by omega
        have hm0 : (0 : Int) ≤ (m : Int) := by omega
        have hd1 : decide ((m : Int) < (len : Int)) = true := decide_eq_true hml
        have HD := hid (fun w => rdst_call (i := m) (X := X) (Y := Y) p1 p2 p3 p4 (hr.out m (by omega)) w)
        have HST : Hid (¬ (dst px py X Y m ≤ ah) → j = J) := hid (fun h => by rw [← HA.out]; exact (adv_stop (by rw [← hm]; exact fun h' => h h'.2) _).symm)
        have HGO : Hid (dst px py X Y m ≤ ah → adv px py X Y len ah (len - m) m = J) := hid (fun h => by rw [← HA.out, hm]; rw [hm] at h; exact (adv_go (by omega) h).symm)
        generalize dst px py X Y m = D at HD HST HGO
        have hmle : m < len := by omega
        have hmj : j < m := by omega
        clear hm
        have hsz0 : w.heap.size + 1 < (wr).heap.size := by have h9 := (hb).size; simp only [alloc_size] at h9; omega
        have hgl0 := (HT.out).lt
        have q0_0 : ∀ (z : Later (wr)), z.val.cell? ⟨g, 0, none⟩ = some (.slice (some ⟨g2, 0, none⟩) len cap) := fun z => (z.cell hgl0).trans (HT.out).c0
        have q0_1 : ∀ (z : Later (wr)), z.val.cell? ⟨g, 1, none⟩ = some (.int .i64 S) := fun z => (z.cell hgl0).trans (HT.out).c1
        have q0_3 : ∀ (z : Later (wr)), z.val.cell? ⟨g, 3, none⟩ = some (.int .i64 B) := fun z => (z.cell hgl0).trans (HT.out).c3
        have q0_6 : ∀ (z : Later (wr)), z.val.cell? ⟨g, 6, none⟩ = some (.int .i64 ah) := fun z => (z.cell hgl0).trans (HT.out).c6
        have q0_7 : ∀ (z : Later (wr)), z.val.cell? ⟨g, 7, none⟩ = some (.int .i64 tl) := fun z => (z.cell hgl0).trans (HT.out).c7
        have q0_8 : ∀ (z : Later (wr)), z.val.cell? ⟨g, 8, none⟩ = some (.int .i64 j) := fun z => (z.cell hgl0).trans (HT.out).c8
        have q0_9 : ∀ (z : Later (wr)), z.val.cell? ⟨g, 9, none⟩ = some (.int .i64 ax) := fun z => (z.cell hgl0).trans (HT.out).c9
        have q0_10 : ∀ (z : Later (wr)), z.val.cell? ⟨g, 10, none⟩ = some (.int .i64 ay) := fun z => (z.cell hgl0).trans (HT.out).c10
        have qf0_8 : ∀ (z : Later (wr)), z.val.frozen? ⟨g, 8, none⟩ = false := fun z => (z.frz hgl0).trans (HT.out).f8
        have qf0_9 : ∀ (z : Later (wr)), z.val.frozen? ⟨g, 9, none⟩ = false := fun z => (z.frz hgl0).trans (HT.out).f9
        have qf0_10 : ∀ (z : Later (wr)), z.val.frozen? ⟨g, 10, none⟩ = false := fun z => (z.frz hgl0).trans (HT.out).f10
        have qf0_11 : ∀ (z : Later (wr)), z.val.frozen? ⟨g, 11, none⟩ = false := fun z => (z.frz hgl0).trans (HT.out).f11
        have qm0_0 : ∀ (z : Later (wr)), z.val.cell? ⟨w.heap.size, 0, none⟩ = some (.int .i64 px) := fun z => (z.cell (by omega)).trans (((hb).cell (by simp only [alloc_size]; omega) (by omega)).trans (by simp [go_sem]))
        have qm0_1 : ∀ (z : Later (wr)), z.val.cell? ⟨w.heap.size, 1, none⟩ = some (.int .i64 py) := fun z => (z.cell (by omega)).trans (((hb).cell (by simp only [alloc_size]; omega) (by omega)).trans (by simp [go_sem]))
        have qr0_0 : ∀ (z : Later (wr)), z.val.cell? ⟨w.heap.size + 1, 0, none⟩ = some (.int .i64 0) := fun z => (z.cell (by omega)).trans (((hb).cell (by simp only [alloc_size]; omega) (by omega)).trans (by simp [go_sem]))
        have qz0_0 : ∀ (z : Later (wr)), z.val.frozen? ⟨w.heap.size + 1, 0, none⟩ = false := fun z => (z.frz (by omega)).trans (((hb).frz (by simp only [alloc_size]; omega) (by omega)).trans (by simp [go_sem]))
        have qr0_1 : ∀ (z : Later (wr)), z.val.cell? ⟨w.heap.size + 1, 1, none⟩ = some (.int .i64 0) := fun z => (z.cell (by omega)).trans (((hb).cell (by simp only [alloc_size]; omega) (by omega)).trans (by simp [go_sem]))
        have qz0_1 : ∀ (z : Later (wr)), z.val.frozen? ⟨w.heap.size + 1, 1, none⟩ = false := fun z => (z.frz (by omega)).trans (((hb).frz (by simp only [alloc_size]; omega) (by omega)).trans (by simp [go_sem]))
        have xm0 : ∀ (z : Later (wr)), z.val.cell? ⟨g2, m * 2, none⟩ = some (.int .i64 (X m)) := fun z => (z.cell (by omega)).trans (((hb).cell (by simp only [alloc_size]; omega) hgg).trans (HW.out m (by omega)).1)
        have xm1 : ∀ (z : Later (wr)), z.val.cell? ⟨g2, m * 2 + 1, none⟩ = some (.int .i64 (Y m)) := fun z => (z.cell (by omega)).trans (((hb).cell (by simp only [alloc_size]; omega) hgg).trans (HW.out m (by omega)).2)
        rcases Int.lt_or_le ah D with hd | hd
        · have hd2 : decide (D ≤ ah) = false := decide_eq_false (by omega)
          have hjJ := HST.out (by omega)
          subst hjJ
          go_wp2_with fail
          refine wp_region_later (w0 := wr) (Below.refl _ _) (by kernel_rfl) (by kernel_rfl) ?_
          repeat (go_big_quiet_step ((go_at_call 36; with_reducible exact calls_later (HD.out _))))
          refine wpQuiet_nil ?_
          intro _ hw'
          obtain ⟨y0, hw''⟩ := hw'
          subst hw''
          go_wp2_with fail
          go_meet
          case rel => exact ⟨hid (HT.out.below y0.ok), hj, hb.trans (Bex.of y0.ok)⟩
        · have hd2 : decide (D ≤ ah) = true := decide_eq_true hd
          go_wp2_with fail
          refine wp_region_later (w0 := wr) (Below.refl _ _) (by kernel_rfl) (by kernel_rfl) ?_
          repeat (go_big_quiet_step ((go_at_call 36; with_reducible exact calls_later (HD.out _))))
          refine wpQuiet_nil ?_
          intro _ hw'
          obtain ⟨y0, hw''⟩ := hw'
          subst hw''
          go_wp2_with fail
          go_roundw
          case rel =>
            exact ⟨m, by omega, hid (HGO.out hd), hid ((HT.out.below y0.ok).prog m), (hb.trans (Bex.of y0.ok)).set (Or.inr rfl) _⟩
          case measure =>
            have e1 := HT.out.c8
            have e2 := q0_8 y0
            have e3 := qf0_8 y0
            simp [intOf, go_sem, e1, e2, e3]
            omega
      · have hje : (j : Int) + 1 = (len : Int) := by omega
        have hd1 : decide ((len : Int) < (len : Int)) = false := by simp
        have hjJ : j = J := by rw [← HA.out]; exact (adv_stop (fun h => hm1 h.1) _).symm
        subst hjJ
        have hsz0 : w.heap.size + 1 < (wr).heap.size := by have h9 := (hb).size; simp only [alloc_size] at h9; omega
        have hgl0 := (HT.out).lt
        have q0_0 : ∀ (z : Later (wr)), z.val.cell? ⟨g, 0, none⟩ = some (.slice (some ⟨g2, 0, none⟩) len cap) := fun z => (z.cell hgl0).trans (HT.out).c0
        have q0_1 : ∀ (z : Later (wr)), z.val.cell? ⟨g, 1, none⟩ = some (.int .i64 S) := fun z => (z.cell hgl0).trans (HT.out).c1
        have q0_3 : ∀ (z : Later (wr)), z.val.cell? ⟨g, 3, none⟩ = some (.int .i64 B) := fun z => (z.cell hgl0).trans (HT.out).c3
        have q0_6 : ∀ (z : Later (wr)), z.val.cell? ⟨g, 6, none⟩ = some (.int .i64 ah) := fun z => (z.cell hgl0).trans (HT.out).c6
        have q0_7 : ∀ (z : Later (wr)), z.val.cell? ⟨g, 7, none⟩ = some (.int .i64 tl) := fun z => (z.cell hgl0).trans (HT.out).c7
        have q0_8 : ∀ (z : Later (wr)), z.val.cell? ⟨g, 8, none⟩ = some (.int .i64 j) := fun z => (z.cell hgl0).trans (HT.out).c8
        have q0_9 : ∀ (z : Later (wr)), z.val.cell? ⟨g, 9, none⟩ = some (.int .i64 ax) := fun z => (z.cell hgl0).trans (HT.out).c9
        have q0_10 : ∀ (z : Later (wr)), z.val.cell? ⟨g, 10, none⟩ = some (.int .i64 ay) := fun z => (z.cell hgl0).trans (HT.out).c10
        have qf0_8 : ∀ (z : Later (wr)), z.val.frozen? ⟨g, 8, none⟩ = false := fun z => (z.frz hgl0).trans (HT.out).f8
        have qf0_9 : ∀ (z : Later (wr)), z.val.frozen? ⟨g, 9, none⟩ = false := fun z => (z.frz hgl0).trans (HT.out).f9
        have qf0_10 : ∀ (z : Later (wr)), z.val.frozen? ⟨g, 10, none⟩ = false := fun z => (z.frz hgl0).trans (HT.out).f10
        have qf0_11 : ∀ (z : Later (wr)), z.val.frozen? ⟨g, 11, none⟩ = false := fun z => (z.frz hgl0).trans (HT.out).f11
        have qm0_0 : ∀ (z : Later (wr)), z.val.cell? ⟨w.heap.size, 0, none⟩ = some (.int .i64 px) := fun z => (z.cell (by omega)).trans (((hb).cell (by simp only [alloc_size]; omega) (by omega)).trans (by simp [go_sem]))
        have qm0_1 : ∀ (z : Later (wr)), z.val.cell? ⟨w.heap.size, 1, none⟩ = some (.int .i64 py) := fun z => (z.cell (by omega)).trans (((hb).cell (by simp only [alloc_size]; omega) (by omega)).trans (by simp [go_sem]))
        have qr0_0 : ∀ (z : Later (wr)), z.val.cell? ⟨w.heap.size + 1, 0, none⟩ = some (.int .i64 0) := fun z => (z.cell (by omega)).trans (((hb).cell (by simp only [alloc_size]; omega) (by omega)).trans (by simp [go_sem]))
        have qz0_0 : ∀ (z : Later (wr)), z.val.frozen? ⟨w.heap.size + 1, 0, none⟩ = false := fun z => (z.frz (by omega)).trans (((hb).frz (by simp only [alloc_size]; omega) (by omega)).trans (by simp [go_sem]))
        have qr0_1 : ∀ (z : Later (wr)), z.val.cell? ⟨w.heap.size + 1, 1, none⟩ = some (.int .i64 0) := fun z => (z.cell (by omega)).trans (((hb).cell (by simp only [alloc_size]; omega) (by omega)).trans (by simp [go_sem]))
        have qz0_1 : ∀ (z : Later (wr)), z.val.frozen? ⟨w.heap.size + 1, 1, none⟩ = false := fun z => (z.frz (by omega)).trans (((hb).frz (by simp only [alloc_size]; omega) (by omega)).trans (by simp [go_sem]))
        go_wp2_with fail
        refine wp_region_later (w0 := wr) (Below.refl _ _) (by kernel_rfl) (by kernel_rfl) ?_
        repeat (go_big_quiet_step (fail))
        refine wpQuiet_nil ?_
        intro _ hw'
        obtain ⟨y0, hw''⟩ := hw'
        subst hw''
        go_wp2_with fail
        go_meet
        case rel => exact ⟨hid (HT.out.below y0.ok), hj, hb.trans (Bex.of y0.ok)⟩
  case rest =>
    obtain ⟨HT, hJl, hb⟩ := hcut
    generalize wc = wb at *
    have hsw : w.heap.size + 1 < wb.heap.size := by have h9 := hb.size; simp only [alloc_size] at h9; omega
    have hgl := HT.out.lt
    have hke : (len : Int) - 1 = (kl : Int) := by omega
    have hklI : (kl : Int) < (len : Int) := by omega
    have hkl0 : (0 : Int) ≤ (kl : Int) := by omega
    have HDL : Hid (∀ w, Calls Try.prog 36 #[pt px py, pt (X kl) (Y kl)] w fun e w' => e = .returned (.int .i64 Lf) ∧ Below w.heap.size w w') := hid (fun w => by rw [← hL.out]; exact rdst_call (i := kl) (X := X) (Y := Y) p1 p2 p3 p4 (hr.out kl (by omega)) w)
    go_upto_region 3 with fail
    go_cut [6] (fun s6 wq => ∃ g : Nat, s6 = .pointer (some ⟨g, 0, none⟩) ∧ g < wq.heap.size ∧ wb.heap.size ≤ g ∧ wq.cell? ⟨g, 0, none⟩ = some (.int .i64 (X kl)) ∧ wq.cell? ⟨g, 1, none⟩ = some (.int .i64 (Y kl)) ∧ wq.frozen? ⟨g, 0, none⟩ = false ∧ wq.frozen? ⟨g, 1, none⟩ = false ∧ Below wb.heap.size wb wq)
    case first =>
      refine wp_region_fresh 12 13 (fun _ => .cells #[.int .i64 0, .int .i64 0] 34) (by kernel_rfl) (by kernel_rfl) (by omega) (by kernel_rfl) ?_
      apply Exists.intro
      refine ⟨fun v1 kb1 => ?_, ?_⟩
      · have ks1 := kb1.size
        have vr0 : ∀ (z : Later v1), z.val.cell? ⟨g, 0, none⟩ = some (.slice (some ⟨g2, 0, none⟩) len cap) := fun z => (z.cell (by have := kb1.size; omega)).trans ((kb1.cell (by dsimp only; omega)).trans (HT.out.c0))
        have vx0 : ∀ (z : Later v1), z.val.cell? ⟨g2, kl * 2, none⟩ = some (.int .i64 (X kl)) := fun z => (z.cell (by have := kb1.size; omega)).trans ((kb1.cell (by dsimp only; omega)).trans ((hb.cell (by simp only [alloc_size]; omega) hgg).trans (HW.out kl (by omega)).1))
        have vx1 : ∀ (z : Later v1), z.val.cell? ⟨g2, kl * 2 + 1, none⟩ = some (.int .i64 (Y kl)) := fun z => (z.cell (by have := kb1.size; omega)).trans ((kb1.cell (by dsimp only; omega)).trans ((hb.cell (by simp only [alloc_size]; omega) hgg).trans (HW.out kl (by omega)).2))
        simp only [List.take_succ_cons, List.take_zero]
        repeat (go_big_quiet_step (fail))
        exact wpQuiet_nil rfl
      · simp only [List.take_succ_cons, List.take_zero, List.drop_succ_cons, List.drop_zero]
        refine wpHead_new (by decide) rfl (run_alloc23 _ _ _ _ _ _) (fun g hg e1 => ?_)
        intro w' hS
        have b1 := (hS.own g _ upd_same).2
        have g1 := hS.lt (g := g) upd_same
        obtain ⟨c1, f1⟩ := block_cells b1
        have hbb := hS.below
        have q0 := c1 0
        have q1 := c1 1
        simp only [List.getElem?_toArray, List.getElem?_cons_zero, List.getElem?_cons_succ] at q0 q1
        clear c1 b1 hS e1
        simp only [Act.put, List.setIfInBounds_toArray, List.set_cons_zero, List.set_cons_succ]
        go_wp2
        go_meet
        case rel =>
          refine ⟨g, rfl, by simpa [World.setCell] using g1, by simpa using hg, ?_, ?_, ?_, ?_, ?_⟩
          · go_simp
          · go_simp
          · go_simp
          · go_simp
          · exact ((hbb.setCell hg _).setCell hg _)
    case rest =>
      obtain ⟨h6, rfl, hh6, hl6, x0, x1, -, -, hb6⟩ := hcut
      have T2 := HT.out.below hb6
      have B2 : Bex g ((w.alloc (.cells #[.int .i64 px, .int .i64 py, .int .i64 vx, .int .i64 vy] 50)).alloc (.cells #[.int .i64 0, .int .i64 0] 34)) wc := hb.trans (Bex.of hb6)
      have hs6 := hb6.size
      have m0 : wc.cell? ⟨w.heap.size, 0, none⟩ = some (.int .i64 px) := (B2.cell (by simp only [alloc_size]; omega) (by omega)).trans (by simp [go_sem])
      have m1 : wc.cell? ⟨w.heap.size, 1, none⟩ = some (.int .i64 py) := (B2.cell (by simp only [alloc_size]; omega) (by omega)).trans (by simp [go_sem])
      go_upto_region 5 with (first
        | (go_at_call 36; (with_reducible refine (HDL.out _).mono ?_); rintro e w3 ⟨rfl, hb3⟩
           have T3 := T2.below hb3
           have B3 : Bex g ((w.alloc (.cells #[.int .i64 px, .int .i64 py, .int .i64 vx, .int .i64 vy] 50)).alloc (.cells #[.int .i64 0, .int .i64 0] 34)) w3 := B2.trans (Bex.of hb3)
           have hs3 := hb3.size
           have c7 := T3.c7; have c9 := T3.c9; have c10 := T3.c10; have c11 := T3.c11; have f9 := T3.f9; have f10 := T3.f10; have f11 := T3.f11
           have y0 := (hb3.cell (p := ⟨h6, 0, none⟩) (by dsimp only; omega)).trans x0
           have y1 := (hb3.cell (p := ⟨h6, 1, none⟩) (by dsimp only; omega)).trans x1
           have r0 : w3.cell? ⟨w.heap.size + 1, 0, none⟩ = some (.int .i64 0) := (B3.cell (by simp only [alloc_size]; omega) (by omega)).trans (by simp [go_sem])
           have r1 : w3.cell? ⟨w.heap.size + 1, 1, none⟩ = some (.int .i64 0) := (B3.cell (by simp only [alloc_size]; omega) (by omega)).trans (by simp [go_sem])
           have z0 : w3.frozen? ⟨w.heap.size + 1, 0, none⟩ = false := (B3.frz (by simp only [alloc_size]; omega) (by omega)).trans (by simp [go_sem])
           have z1 : w3.frozen? ⟨w.heap.size + 1, 1, none⟩ = false := (B3.frz (by simp only [alloc_size]; omega) (by omega)).trans (by simp [go_sem])))
      have hgh : (g == h6) = false := by simp; omega
      have hgw : (g == w.heap.size + 1) = false := by simp; omega
      clear x0 x1 m0 m1
      have hlt2 : ¬ (Lf ≤ tl) := by omega
      go_upto_region 9 with fail
      have T5 := (T3.on true).aim (X kl) (Y kl)
      have B5 : Bex g ((w.alloc (.cells #[.int .i64 px, .int .i64 py, .int .i64 vx, .int .i64 vy] 50)).alloc (.cells #[.int .i64 0, .int .i64 0] 34)) (((w3.setCell ⟨g, 11, none⟩ (.bool true)).setCell ⟨g, 9, none⟩ (.int .i64 (X kl))).setCell ⟨g, 10, none⟩ (.int .i64 (Y kl))) := ((B3.set (Or.inr rfl) _).set (Or.inr rfl) _).set (Or.inr rfl) _
      clear c7 c9 c10 c11 f9 f10 f11 y0 y1 r0 r1 z0 z1 hgh hgw
      have hJI : (J : Int) < (len : Int) := by omega
      have hJ0 : (0 : Int) ≤ (J : Int) := by omega
      generalize (((w3.setCell ⟨g, 11, none⟩ (.bool true)).setCell ⟨g, 9, none⟩ (.int .i64 (X kl))).setCell ⟨g, 10, none⟩ (.int .i64 (Y kl))) = w5 at *
      have hsz5 : w.heap.size + 1 < (w5).heap.size := by have h9 := (B5).size; simp only [alloc_size] at h9; omega
      have hgl5 := (T5).lt
      have q5_0 : ∀ (z : Later (w5)), z.val.cell? ⟨g, 0, none⟩ = some (.slice (some ⟨g2, 0, none⟩) len cap) := fun z => (z.cell hgl5).trans (T5).c0
      have q5_1 : ∀ (z : Later (w5)), z.val.cell? ⟨g, 1, none⟩ = some (.int .i64 S) := fun z => (z.cell hgl5).trans (T5).c1
      have q5_3 : ∀ (z : Later (w5)), z.val.cell? ⟨g, 3, none⟩ = some (.int .i64 B) := fun z => (z.cell hgl5).trans (T5).c3
      have q5_6 : ∀ (z : Later (w5)), z.val.cell? ⟨g, 6, none⟩ = some (.int .i64 ah) := fun z => (z.cell hgl5).trans (T5).c6
      have q5_7 : ∀ (z : Later (w5)), z.val.cell? ⟨g, 7, none⟩ = some (.int .i64 tl) := fun z => (z.cell hgl5).trans (T5).c7
      have q5_8 : ∀ (z : Later (w5)), z.val.cell? ⟨g, 8, none⟩ = some (.int .i64 J) := fun z => (z.cell hgl5).trans (T5).c8
      have q5_9 : ∀ (z : Later (w5)), z.val.cell? ⟨g, 9, none⟩ = some (.int .i64 (X kl)) := fun z => (z.cell hgl5).trans (T5).c9
      have q5_10 : ∀ (z : Later (w5)), z.val.cell? ⟨g, 10, none⟩ = some (.int .i64 (Y kl)) := fun z => (z.cell hgl5).trans (T5).c10
      have qf5_8 : ∀ (z : Later (w5)), z.val.frozen? ⟨g, 8, none⟩ = false := fun z => (z.frz hgl5).trans (T5).f8
      have qf5_9 : ∀ (z : Later (w5)), z.val.frozen? ⟨g, 9, none⟩ = false := fun z => (z.frz hgl5).trans (T5).f9
      have qf5_10 : ∀ (z : Later (w5)), z.val.frozen? ⟨g, 10, none⟩ = false := fun z => (z.frz hgl5).trans (T5).f10
      have qf5_11 : ∀ (z : Later (w5)), z.val.frozen? ⟨g, 11, none⟩ = false := fun z => (z.frz hgl5).trans (T5).f11
      have qm5_0 : ∀ (z : Later (w5)), z.val.cell? ⟨w.heap.size, 0, none⟩ = some (.int .i64 px) := fun z => (z.cell (by omega)).trans (((B5).cell (by simp only [alloc_size]; omega) (by omega)).trans (by simp [go_sem]))
      have qm5_1 : ∀ (z : Later (w5)), z.val.cell? ⟨w.heap.size, 1, none⟩ = some (.int .i64 py) := fun z => (z.cell (by omega)).trans (((B5).cell (by simp only [alloc_size]; omega) (by omega)).trans (by simp [go_sem]))
      have qr5_0 : ∀ (z : Later (w5)), z.val.cell? ⟨w.heap.size + 1, 0, none⟩ = some (.int .i64 0) := fun z => (z.cell (by omega)).trans (((B5).cell (by simp only [alloc_size]; omega) (by omega)).trans (by simp [go_sem]))
      have qz5_0 : ∀ (z : Later (w5)), z.val.frozen? ⟨w.heap.size + 1, 0, none⟩ = false := fun z => (z.frz (by omega)).trans (((B5).frz (by simp only [alloc_size]; omega) (by omega)).trans (by simp [go_sem]))
      have qr5_1 : ∀ (z : Later (w5)), z.val.cell? ⟨w.heap.size + 1, 1, none⟩ = some (.int .i64 0) := fun z => (z.cell (by omega)).trans (((B5).cell (by simp only [alloc_size]; omega) (by omega)).trans (by simp [go_sem]))
      have qz5_1 : ∀ (z : Later (w5)), z.val.frozen? ⟨w.heap.size + 1, 1, none⟩ = false := fun z => (z.frz (by omega)).trans (((B5).frz (by simp only [alloc_size]; omega) (by omega)).trans (by simp [go_sem]))
      have xa0 : ∀ (z : Later (w5)), z.val.cell? ⟨g2, ka * 2, none⟩ = some (.int .i64 (X ka)) := fun z => (z.cell (by omega)).trans (((B5).cell (by simp only [alloc_size]; omega) hgg).trans (HW.out ka (by omega)).1)
      have xa1 : ∀ (z : Later (w5)), z.val.cell? ⟨g2, ka * 2 + 1, none⟩ = some (.int .i64 (Y ka)) := fun z => (z.cell (by omega)).trans (((B5).cell (by simp only [alloc_size]; omega) hgg).trans (HW.out ka (by omega)).2)
      by_cases hJ1 : J + 1 < len
      · have hkaJ : (J : Int) + 1 = (ka : Int) := by have := HKE.out; omega
        have hkaI : (ka : Int) < (len : Int) := by omega
        have hka0 : (0 : Int) ≤ (ka : Int) := by omega
        refine wp_region_later (w0 := w5) (Below.refl _ _) (by kernel_rfl) (by kernel_rfl) ?_
        repeat (go_big_quiet_step (fail))
        refine wpQuiet_nil ?_
        intro _ hw'
        obtain ⟨y9, hw''⟩ := hw'
        subst hw''
        go_upto_region 10 with fail
        refine wp_region_later_tail (w0 := w5) 14 y9.ok (by kernel_rfl) (by kernel_rfl) ?_
        simp only [List.take_succ_cons, List.take_zero, List.drop_succ_cons, List.drop_zero]
        repeat (go_big_quiet_step (fail))
        refine wpQuiet_nil ?_
        intro _ hw'
        obtain ⟨y10, hw''⟩ := hw'
        subst hw''
        have gq9 := q5_9 y10; have gq10 := q5_10 y10; have gf9 := qf5_9 y10; have gf10 := qf5_10 y10
        have hs10 := y10.size
        go_upto_region 11 with fail
        clear gq9 gq10 gf9 gf10
        clear q5_0 q5_1 q5_3 q5_6 q5_7 q5_8 q5_9 q5_10 qf5_8 qf5_9 qf5_10 qf5_11 qm5_0 qm5_1 qr5_0 qr5_1 qz5_0 qz5_1 xa0 xa1
        have T10 := (T5.below y10.ok).aim (X ka) (Y ka)
        have B10 : Bex g ((w.alloc (.cells #[.int .i64 px, .int .i64 py, .int .i64 vx, .int .i64 vy] 50)).alloc (.cells #[.int .i64 0, .int .i64 0] 34)) ((y10.val.setCell ⟨g, 9, none⟩ (.int .i64 (X ka))).setCell ⟨g, 10, none⟩ (.int .i64 (Y ka))) := ((B5.trans (Bex.of y10.ok)).set (Or.inr rfl) _).set (Or.inr rfl) _
        generalize ((y10.val.setCell ⟨g, 9, none⟩ (.int .i64 (X ka))).setCell ⟨g, 10, none⟩ (.int .i64 (Y ka))) = w10 at *
        have hsz9 : w.heap.size + 1 < (w10).heap.size := by have h9 := (B10).size; simp only [alloc_size] at h9; omega
        have hgl9 := (T10).lt
        have q9_0 : ∀ (z : Later (w10)), z.val.cell? ⟨g, 0, none⟩ = some (.slice (some ⟨g2, 0, none⟩) len cap) := fun z => (z.cell hgl9).trans (T10).c0
        have q9_1 : ∀ (z : Later (w10)), z.val.cell? ⟨g, 1, none⟩ = some (.int .i64 S) := fun z => (z.cell hgl9).trans (T10).c1
        have q9_3 : ∀ (z : Later (w10)), z.val.cell? ⟨g, 3, none⟩ = some (.int .i64 B) := fun z => (z.cell hgl9).trans (T10).c3
        have q9_6 : ∀ (z : Later (w10)), z.val.cell? ⟨g, 6, none⟩ = some (.int .i64 ah) := fun z => (z.cell hgl9).trans (T10).c6
        have q9_7 : ∀ (z : Later (w10)), z.val.cell? ⟨g, 7, none⟩ = some (.int .i64 tl) := fun z => (z.cell hgl9).trans (T10).c7
        have q9_8 : ∀ (z : Later (w10)), z.val.cell? ⟨g, 8, none⟩ = some (.int .i64 J) := fun z => (z.cell hgl9).trans (T10).c8
        have q9_9 : ∀ (z : Later (w10)), z.val.cell? ⟨g, 9, none⟩ = some (.int .i64 (X ka)) := fun z => (z.cell hgl9).trans (T10).c9
        have q9_10 : ∀ (z : Later (w10)), z.val.cell? ⟨g, 10, none⟩ = some (.int .i64 (Y ka)) := fun z => (z.cell hgl9).trans (T10).c10
        have qf9_8 : ∀ (z : Later (w10)), z.val.frozen? ⟨g, 8, none⟩ = false := fun z => (z.frz hgl9).trans (T10).f8
        have qf9_9 : ∀ (z : Later (w10)), z.val.frozen? ⟨g, 9, none⟩ = false := fun z => (z.frz hgl9).trans (T10).f9
        have qf9_10 : ∀ (z : Later (w10)), z.val.frozen? ⟨g, 10, none⟩ = false := fun z => (z.frz hgl9).trans (T10).f10
        have qf9_11 : ∀ (z : Later (w10)), z.val.frozen? ⟨g, 11, none⟩ = false := fun z => (z.frz hgl9).trans (T10).f11
        have qm9_0 : ∀ (z : Later (w10)), z.val.cell? ⟨w.heap.size, 0, none⟩ = some (.int .i64 px) := fun z => (z.cell (by omega)).trans (((B10).cell (by simp only [alloc_size]; omega) (by omega)).trans (by simp [go_sem]))
        have qm9_1 : ∀ (z : Later (w10)), z.val.cell? ⟨w.heap.size, 1, none⟩ = some (.int .i64 py) := fun z => (z.cell (by omega)).trans (((B10).cell (by simp only [alloc_size]; omega) (by omega)).trans (by simp [go_sem]))
        have qr9_0 : ∀ (z : Later (w10)), z.val.cell? ⟨w.heap.size + 1, 0, none⟩ = some (.int .i64 0) := fun z => (z.cell (by omega)).trans (((B10).cell (by simp only [alloc_size]; omega) (by omega)).trans (by simp [go_sem]))
        have qz9_0 : ∀ (z : Later (w10)), z.val.frozen? ⟨w.heap.size + 1, 0, none⟩ = false := fun z => (z.frz (by omega)).trans (((B10).frz (by simp only [alloc_size]; omega) (by omega)).trans (by simp [go_sem]))
        have qr9_1 : ∀ (z : Later (w10)), z.val.cell? ⟨w.heap.size + 1, 1, none⟩ = some (.int .i64 0) := fun z => (z.cell (by omega)).trans (((B10).cell (by simp only [alloc_size]; omega) (by omega)).trans (by simp [go_sem]))
        have qz9_1 : ∀ (z : Later (w10)), z.val.frozen? ⟨w.heap.size + 1, 1, none⟩ = false := fun z => (z.frz (by omega)).trans (((B10).frz (by simp only [alloc_size]; omega) (by omega)).trans (by simp [go_sem]))
        refine wp_region_later_tail (w0 := w10) 20 (Below.refl _ _) (by kernel_rfl) (by kernel_rfl) ?_
        simp only [List.take_succ_cons, List.take_zero, List.drop_succ_cons, List.drop_zero]
        repeat (go_big_quiet_step (first | (go_at_call 38; with_reducible exact calls_later (HSB.out _)) | (go_at_call 39; with_reducible exact calls_later_same (HSP.out _)) | (go_at_call 37; with_reducible exact calls_later (HSC.out _))))
        refine wpQuiet_nil ?_
        intro _ hw'
        obtain ⟨y12, hw''⟩ := hw'
        subst hw''
        have r0 := qr9_0 y12; have r1 := qr9_1 y12; have z0 := qz9_0 y12; have z1 := qz9_1 y12
        have hs12 := y12.size
        go_wp2_with fail
        (try simp only [Exit.inBlock, Exit.then])
        refine bodyPost_ret (v := .tuple #[pt VX VY, .bool false]) (by simp [results, Try.results17, go_sem, r0, r1, z0, z1]) rfl ?_
        exact ⟨rfl, ((T10.below y12.ok).far (by dsimp only; omega) _).far (by dsimp only; omega) _, ((hBX.trans (B10.trans (Bex.of y12.ok))).set (Or.inl (by dsimp only; omega)) _).set (Or.inl (by dsimp only; omega)) _⟩
      · have hkk : kl = ka := by have := HKE.out; omega
        have hJe : (J : Int) + 1 = (len : Int) := by omega
        subst hkk
        refine wp_region_later (w0 := w5) (Below.refl _ _) (by kernel_rfl) (by kernel_rfl) ?_
        repeat (go_big_quiet_step (fail))
        refine wpQuiet_nil ?_
        intro _ hw'
        obtain ⟨y9, hw''⟩ := hw'
        subst hw''
        go_upto_region 11 with fail
        refine wp_region_later_tail (w0 := w5) 20 y9.ok (by kernel_rfl) (by kernel_rfl) ?_
        simp only [List.take_succ_cons, List.take_zero, List.drop_succ_cons, List.drop_zero]
        repeat (go_big_quiet_step (first | (go_at_call 38; with_reducible exact calls_later (HSB.out _)) | (go_at_call 39; with_reducible exact calls_later_same (HSP.out _)) | (go_at_call 37; with_reducible exact calls_later (HSC.out _))))
        refine wpQuiet_nil ?_
        intro _ hw'
        obtain ⟨y12, hw''⟩ := hw'
        subst hw''
        have r0 := qr5_0 y12; have r1 := qr5_1 y12; have z0 := qz5_0 y12; have z1 := qz5_1 y12
        have hs12 := y12.size
        go_wp2_with fail
        (try simp only [Exit.inBlock, Exit.then])
        refine bodyPost_ret (v := .tuple #[pt VX VY, .bool false]) (by simp [results, Try.results17, go_sem, r0, r1, z0, z1]) rfl ?_
        exact ⟨rfl, ((T5.below y12.ok).far (by dsimp only; omega) _).far (by dsimp only; omega) _, ((hBX.trans (B5.trans (Bex.of y12.ok))).set (Or.inl (by dsimp only; omega)) _).set (Or.inl (by dsimp only; omega)) _⟩
end Go.Proofs.Ytdcclpdnnhaeoaa
