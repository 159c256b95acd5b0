/- Walks: Next, at the goal. -/
import Derived.Test.YtdcclpdnnhaeoaaWi
namespace Go.Proofs.Ytdcclpdnnhaeoaa
open Go.RowKit
set_option linter.unusedVariables false
set_option linter.unusedSimpArgs false
set_option maxRecDepth 100000 in
set_option maxHeartbeats 8000000 in
theorem next_goal (g g2 len cap pr : Nat) (px py vx vy : Int) (X Y : Nat → Int) (S A B H M ah tl ax ay : Int) (ai : Bool) (hl : 0 < len) (hlm : len ≤ 4096) (hpr : pr < len) (hr : Hid (∀ i, i < len → rchB (X i) (Y i) = true)) (p1 : -1048576 ≤ px) (p2 : px ≤ 1048576) (p3 : -1048576 ≤ py) (p4 : py ≤ 1048576)
    (s1 : 1 ≤ S) (s2 : S ≤ 4096) (b1 : 1 ≤ B) (b2 : B ≤ 4096) (hgg : g2 ≠ g) (w : World) (T : Hid (Trk w g (.slice (some ⟨g2, 0, none⟩) len cap) S A B H M ah tl pr ax ay ai)) (hg2 : g2 < w.heap.size) (hX : Hid (∀ i, i < len → w.cell? ⟨g2, i * 2, none⟩ = some (.int .i64 (X i)) ∧ w.cell? ⟨g2, i * 2 + 1, none⟩ = some (.int .i64 (Y i))))
    (J : Nat) (hJ : Hid (adv px py X Y len ah (len - pr) pr = J)) (Lf : Int) (kl : Nat) (hkl : kl + 1 = len) (hL : Hid (dst px py X Y kl = Lf)) (hgo : Lf ≤ tl) :
    Calls Try.prog 16 #[.pointer (some ⟨g, 0, none⟩), mo px py vx vy] w fun e w' => e = .returned (.tuple #[pt 0 0, .bool true]) ∧ Trk w' g (.slice (some ⟨g2, 0, none⟩) len cap) S A B H M ah tl J (X kl) (Y kl) true ∧ Bex g w w' := by
  have hB1 : Below w.heap.size w ((w.alloc (.cells #[.int .i64 px, .int .i64 py, .int .i64 vx, .int .i64 vy] 50)).alloc (.cells #[.int .i64 0, .int .i64 0] 34)) := (((Below.refl _ _).alloc (Nat.le_refl _) _).alloc (by simp) _)
  have HT1 : Hid (Trk ((w.alloc (.cells #[.int .i64 px, .int .i64 py, .int .i64 vx, .int .i64 vy] 50)).alloc (.cells #[.int .i64 0, .int .i64 0] 34)) g (.slice (some ⟨g2, 0, none⟩) len cap) S A B H M ah tl pr ax ay ai) := hid (T.out.below hB1)
  have HW : Hid (∀ i, i < len → ((w.alloc (.cells #[.int .i64 px, .int .i64 py, .int .i64 vx, .int .i64 vy] 50)).alloc (.cells #[.int .i64 0, .int .i64 0] 34)).cell? ⟨g2, i * 2, none⟩ = some (.int .i64 (X i)) ∧ ((w.alloc (.cells #[.int .i64 px, .int .i64 py, .int .i64 vx, .int .i64 vy] 50)).alloc (.cells #[.int .i64 0, .int .i64 0] 34)).cell? ⟨g2, i * 2 + 1, none⟩ = some (.int .i64 (Y i))) := hid (fun i hi => ⟨(hB1.cell hg2).trans (hX.out i hi).1, (hB1.cell hg2).trans (hX.out i hi).2⟩)
  have hglt : g < w.heap.size := T.out.lt
  have hBX : Bex g w ((w.alloc (.cells #[.int .i64 px, .int .i64 py, .int .i64 vx, .int .i64 vy] 50)).alloc (.cells #[.int .i64 0, .int .i64 0] 34)) := Bex.of hB1
  have k0 := HT1.out.c0
  have hlN : (len : Int) ≤ 4096 := by omega
  have hl0 : 0 < (len : Int) := by omega
  have h0' : ((len : Int) == 0) = false := by simp; omega
  clear T hX
  go_enter Try.func16, Try.ntmps16
  go_wp2_with fail
  clear k0
  go_loopw [] (fun wr => ∃ j : Nat, j < len ∧ Hid (adv px py X Y len ah (len - j) j = J) ∧ Hid (Trk wr g (.slice (some ⟨g2, 0, none⟩) len cap) S A B H M ah tl j ax ay ai) ∧ Bex g ((w.alloc (.cells #[.int .i64 px, .int .i64 py, .int .i64 vx, .int .i64 vy] 50)).alloc (.cells #[.int .i64 0, .int .i64 0] 34)) wr) (fun wr => len - (intOf ((wr.cell? ⟨g, 8, none⟩).getD undef)).toNat)
  case atStart => exact ⟨pr, hpr, hJ, HT1, Bex.refl _ _⟩
  case round =>
    obtain ⟨j, hj, HA, HT, hb⟩ := hrel
    have hjI : (j : Int) < (len : Int) := by omega
    have hj0 : (0 : Int) ≤ (j : Int) := by omega
    by_cases hm1 : j + 1 < len
    · obtain ⟨m, hm⟩ : ∃ m, m = j + 1 := ⟨_, rfl⟩
      have hmI : (j : Int) + 1 = (m : Int) := by omega
      have hml : (m : Int) < (len : Int) := by omega
      have hm0 : (0 : Int) ≤ (m : Int) := by omega
      have hd1 : decide ((m : Int) < (len : Int)) = true := decide_eq_true hml
      have HD := hid (fun w => dst_call (i := m) (X := X) (Y := Y) p1 p2 p3 p4 (hr.out m (by omega)) w)
      have HST : Hid (¬ (dst px py X Y m ≤ ah) → j = J) := hid (fun h => by rw [← HA.out]; exact (adv_stop (by rw [← hm]; exact fun h' => h h'.2) _).symm)
      have HGO : Hid (dst px py X Y m ≤ ah → adv px py X Y len ah (len - m) m = J) := hid (fun h => by rw [← HA.out, hm]; rw [hm] at h; exact (adv_go (by omega) h).symm)
      generalize dst px py X Y m = D at HD HST HGO
      have hmle : m < len := by omega
      have hmj : j < m := by omega
      clear hm
      have hsz0 : w.heap.size + 1 < (wr).heap.size := by have h9 := (hb).size; simp only [alloc_size] at h9; omega
      have hgl0 := (HT.out).lt
      have q0_0 : ∀ (z : Later (wr)), z.val.cell? ⟨g, 0, none⟩ = some (.slice (some ⟨g2, 0, none⟩) len cap) := fun z => (z.cell hgl0).trans (HT.out).c0
      have q0_1 : ∀ (z : Later (wr)), z.val.cell? ⟨g, 1, none⟩ = some (.int .i64 S) := fun z => (z.cell hgl0).trans (HT.out).c1
      have q0_3 : ∀ (z : Later (wr)), z.val.cell? ⟨g, 3, none⟩ = some (.int .i64 B) := fun z => (z.cell hgl0).trans (HT.out).c3
      have q0_6 : ∀ (z : Later (wr)), z.val.cell? ⟨g, 6, none⟩ = some (.int .i64 ah) := fun z => (z.cell hgl0).trans (HT.out).c6
      have q0_7 : ∀ (z : Later (wr)), z.val.cell? ⟨g, 7, none⟩ = some (.int .i64 tl) := fun z => (z.cell hgl0).trans (HT.out).c7
      have q0_8 : ∀ (z : Later (wr)), z.val.cell? ⟨g, 8, none⟩ = some (.int .i64 j) := fun z => (z.cell hgl0).trans (HT.out).c8
      have q0_9 : ∀ (z : Later (wr)), z.val.cell? ⟨g, 9, none⟩ = some (.int .i64 ax) := fun z => (z.cell hgl0).trans (HT.out).c9
      have q0_10 : ∀ (z : Later (wr)), z.val.cell? ⟨g, 10, none⟩ = some (.int .i64 ay) := fun z => (z.cell hgl0).trans (HT.out).c10
      have qf0_8 : ∀ (z : Later (wr)), z.val.frozen? ⟨g, 8, none⟩ = false := fun z => (z.frz hgl0).trans (HT.out).f8
      have qf0_9 : ∀ (z : Later (wr)), z.val.frozen? ⟨g, 9, none⟩ = false := fun z => (z.frz hgl0).trans (HT.out).f9
      have qf0_10 : ∀ (z : Later (wr)), z.val.frozen? ⟨g, 10, none⟩ = false := fun z => (z.frz hgl0).trans (HT.out).f10
      have qf0_11 : ∀ (z : Later (wr)), z.val.frozen? ⟨g, 11, none⟩ = false := fun z => (z.frz hgl0).trans (HT.out).f11
      have qm0_0 : ∀ (z : Later (wr)), z.val.cell? ⟨w.heap.size, 0, none⟩ = some (.int .i64 px) := fun z => (z.cell (by omega)).trans (((hb).cell (by simp only [alloc_size]; omega) (by omega)).trans (by simp [go_sem]))
      have qm0_1 : ∀ (z : Later (wr)), z.val.cell? ⟨w.heap.size, 1, none⟩ = some (.int .i64 py) := fun z => (z.cell (by omega)).trans (((hb).cell (by simp only [alloc_size]; omega) (by omega)).trans (by simp [go_sem]))
      have qr0_0 : ∀ (z : Later (wr)), z.val.cell? ⟨w.heap.size + 1, 0, none⟩ = some (.int .i64 0) := fun z => (z.cell (by omega)).trans (((hb).cell (by simp only [alloc_size]; omega) (by omega)).trans (by simp [go_sem]))
      have qz0_0 : ∀ (z : Later (wr)), z.val.frozen? ⟨w.heap.size + 1, 0, none⟩ = false := fun z => (z.frz (by omega)).trans (((hb).frz (by simp only [alloc_size]; omega) (by omega)).trans (by simp [go_sem]))
      have qr0_1 : ∀ (z : Later (wr)), z.val.cell? ⟨w.heap.size + 1, 1, none⟩ = some (.int .i64 0) := fun z => (z.cell (by omega)).trans (((hb).cell (by simp only [alloc_size]; omega) (by omega)).trans (by simp [go_sem]))
      have qz0_1 : ∀ (z : Later (wr)), z.val.frozen? ⟨w.heap.size + 1, 1, none⟩ = false := fun z => (z.frz (by omega)).trans (((hb).frz (by simp only [alloc_size]; omega) (by omega)).trans (by simp [go_sem]))
      have xm0 : ∀ (z : Later (wr)), z.val.cell? ⟨g2, m * 2, none⟩ = some (.int .i64 (X m)) := fun z => (z.cell (by omega)).trans (((hb).cell (by simp only [alloc_size]; omega) hgg).trans (HW.out m (by omega)).1)
      have xm1 : ∀ (z : Later (wr)), z.val.cell? ⟨g2, m * 2 + 1, none⟩ = some (.int .i64 (Y m)) := fun z => (z.cell (by omega)).trans (((hb).cell (by simp only [alloc_size]; omega) hgg).trans (HW.out m (by omega)).2)
      rcases Int.lt_or_le ah D with hd | hd
      · have hd2 : decide (D ≤ ah) = false := decide_eq_false (by omega)
        have hjJ := HST.out (by omega)
        subst hjJ
        go_wp2_with fail
        refine wp_region_later (w0 := wr) (Below.refl _ _) (by kernel_rfl) (by kernel_rfl) ?_
        repeat (go_big_quiet_step ((go_at_call 30; with_reducible exact calls_later (HD.out _))))
        refine wpQuiet_nil ?_
        intro _ hw'
        obtain ⟨y0, hw''⟩ := hw'
        subst hw''
        clear HD HST HGO hd hd2
        clear q0_0 q0_1 q0_3 q0_6 q0_7 q0_8 q0_9 q0_10 qf0_8 qf0_9 qf0_10 qf0_11 qm0_0 qm0_1 qr0_0 qr0_1 qz0_0 qz0_1 xm0 xm1 hmI hml hm0 hd1 hmle hmj
        have hf11 : y0.val.frozen? ⟨g, 11, none⟩ = false := (y0.frz HT.out.lt).trans HT.out.f11
        have hc11 := (y0.cell (o := 11) (s := none) HT.out.lt).trans HT.out.c11
        go_upto_region 6 with fail
        clear hf11 hc11
        have T5 := (HT.out.below y0.ok).on true
        have B5 : Bex g ((w.alloc (.cells #[.int .i64 px, .int .i64 py, .int .i64 vx, .int .i64 vy] 50)).alloc (.cells #[.int .i64 0, .int .i64 0] 34)) (y0.val.setCell ⟨g, 11, none⟩ (.bool true)) := (hb.trans (Bex.of y0.ok)).set (Or.inr rfl) _
        generalize y0.val.setCell ⟨g, 11, none⟩ (.bool true) = w5 at *
        have hsz5 : w.heap.size + 1 < (w5).heap.size := by have h9 := (B5).size; simp only [alloc_size] at h9; omega
        have hgl5 := (T5).lt
        have q5_0 : ∀ (z : Later (w5)), z.val.cell? ⟨g, 0, none⟩ = some (.slice (some ⟨g2, 0, none⟩) len cap) := fun z => (z.cell hgl5).trans (T5).c0
        have q5_1 : ∀ (z : Later (w5)), z.val.cell? ⟨g, 1, none⟩ = some (.int .i64 S) := fun z => (z.cell hgl5).trans (T5).c1
        have q5_3 : ∀ (z : Later (w5)), z.val.cell? ⟨g, 3, none⟩ = some (.int .i64 B) := fun z => (z.cell hgl5).trans (T5).c3
        have q5_6 : ∀ (z : Later (w5)), z.val.cell? ⟨g, 6, none⟩ = some (.int .i64 ah) := fun z => (z.cell hgl5).trans (T5).c6
        have q5_7 : ∀ (z : Later (w5)), z.val.cell? ⟨g, 7, none⟩ = some (.int .i64 tl) := fun z => (z.cell hgl5).trans (T5).c7
        have q5_8 : ∀ (z : Later (w5)), z.val.cell? ⟨g, 8, none⟩ = some (.int .i64 j) := fun z => (z.cell hgl5).trans (T5).c8
        have q5_9 : ∀ (z : Later (w5)), z.val.cell? ⟨g, 9, none⟩ = some (.int .i64 ax) := fun z => (z.cell hgl5).trans (T5).c9
        have q5_10 : ∀ (z : Later (w5)), z.val.cell? ⟨g, 10, none⟩ = some (.int .i64 ay) := fun z => (z.cell hgl5).trans (T5).c10
        have qf5_8 : ∀ (z : Later (w5)), z.val.frozen? ⟨g, 8, none⟩ = false := fun z => (z.frz hgl5).trans (T5).f8
        have qf5_9 : ∀ (z : Later (w5)), z.val.frozen? ⟨g, 9, none⟩ = false := fun z => (z.frz hgl5).trans (T5).f9
        have qf5_10 : ∀ (z : Later (w5)), z.val.frozen? ⟨g, 10, none⟩ = false := fun z => (z.frz hgl5).trans (T5).f10
        have qf5_11 : ∀ (z : Later (w5)), z.val.frozen? ⟨g, 11, none⟩ = false := fun z => (z.frz hgl5).trans (T5).f11
        have qm5_0 : ∀ (z : Later (w5)), z.val.cell? ⟨w.heap.size, 0, none⟩ = some (.int .i64 px) := fun z => (z.cell (by omega)).trans (((B5).cell (by simp only [alloc_size]; omega) (by omega)).trans (by simp [go_sem]))
        have qm5_1 : ∀ (z : Later (w5)), z.val.cell? ⟨w.heap.size, 1, none⟩ = some (.int .i64 py) := fun z => (z.cell (by omega)).trans (((B5).cell (by simp only [alloc_size]; omega) (by omega)).trans (by simp [go_sem]))
        have qr5_0 : ∀ (z : Later (w5)), z.val.cell? ⟨w.heap.size + 1, 0, none⟩ = some (.int .i64 0) := fun z => (z.cell (by omega)).trans (((B5).cell (by simp only [alloc_size]; omega) (by omega)).trans (by simp [go_sem]))
        have qz5_0 : ∀ (z : Later (w5)), z.val.frozen? ⟨w.heap.size + 1, 0, none⟩ = false := fun z => (z.frz (by omega)).trans (((B5).frz (by simp only [alloc_size]; omega) (by omega)).trans (by simp [go_sem]))
        have qr5_1 : ∀ (z : Later (w5)), z.val.cell? ⟨w.heap.size + 1, 1, none⟩ = some (.int .i64 0) := fun z => (z.cell (by omega)).trans (((B5).cell (by simp only [alloc_size]; omega) (by omega)).trans (by simp [go_sem]))
        have qz5_1 : ∀ (z : Later (w5)), z.val.frozen? ⟨w.heap.size + 1, 1, none⟩ = false := fun z => (z.frz (by omega)).trans (((B5).frz (by simp only [alloc_size]; omega) (by omega)).trans (by simp [go_sem]))
        have xk0 : ∀ (z : Later (w5)), z.val.cell? ⟨g2, kl * 2, none⟩ = some (.int .i64 (X kl)) := fun z => (z.cell (by omega)).trans (((B5).cell (by simp only [alloc_size]; omega) hgg).trans (HW.out kl (by omega)).1)
        have xk1 : ∀ (z : Later (w5)), z.val.cell? ⟨g2, kl * 2 + 1, none⟩ = some (.int .i64 (Y kl)) := fun z => (z.cell (by omega)).trans (((B5).cell (by simp only [alloc_size]; omega) hgg).trans (HW.out kl (by omega)).2)
        have HLA := hid (fun (z : Later w5) => last_any g g2 len cap kl (X kl) (Y kl) hl hlm hkl z.val (Nat.lt_of_lt_of_le hgl5 z.size) (by have := z.size; omega) (q5_0 z) (xk0 z) (xk1 z))
        have HDL : Hid (∀ w, Calls Try.prog 30 #[pt px py, pt (X kl) (Y kl)] w fun e w' => e = .returned (.int .i64 Lf) ∧ Below w.heap.size w w') := hid (fun w => by rw [← hL.out]; exact dst_call (i := kl) (X := X) (Y := Y) p1 p2 p3 p4 (hr.out kl (by omega)) w)
        go_wp2_with fail
        refine wp_region_later (w0 := w5) (Below.refl _ _) (by kernel_rfl) (by kernel_rfl) ?_
        repeat (go_big_quiet_step (first | (go_at_call 31; with_reducible exact calls_later (HLA.out _)) | (go_at_call 30; with_reducible exact calls_later (HDL.out _))))
        refine wpQuiet_nil ?_
        intro _ hw'
        obtain ⟨y6, hw''⟩ := hw'
        subst hw''
        have hsz6 := y6.size
        go_upto_region 9 with (first
          | (go_at_call 31; (with_reducible refine (HLA.out y6).mono ?_); rintro e w8 ⟨rfl, hb8⟩
             have T8 := (T5.below y6.ok).below hb8
             have B8 : Bex g ((w.alloc (.cells #[.int .i64 px, .int .i64 py, .int .i64 vx, .int .i64 vy] 50)).alloc (.cells #[.int .i64 0, .int .i64 0] 34)) w8 := (B5.trans (Bex.of y6.ok)).trans (Bex.of hb8)
             have g8 := T8.f9; have g8' := T8.f10; have g9 := T8.c9; have g9' := T8.c10
             have hs8 := hb8.size
             have r0 := (hb8.cell (p := ⟨w.heap.size + 1, 0, none⟩) (by dsimp only; omega)).trans (qr5_0 y6)
             have r1 := (hb8.cell (p := ⟨w.heap.size + 1, 1, none⟩) (by dsimp only; omega)).trans (qr5_1 y6)
             have z0 := (hb8.frozen (p := ⟨w.heap.size + 1, 0, none⟩) (by dsimp only; omega)).trans (qz5_0 y6)
             have z1 := (hb8.frozen (p := ⟨w.heap.size + 1, 1, none⟩) (by dsimp only; omega)).trans (qz5_1 y6)))
        go_wp2_with fail
        have hne : (g == w.heap.size + 1) = false := by simp; omega
        refine bodyPost_ret (v := .tuple #[pt 0 0, .bool true]) (by simp [results, Try.results16, go_sem, r0, r1, z0, z1]) rfl ?_
        exact ⟨rfl, ((T8.aim _ _).far (by dsimp only; omega) _).far (by dsimp only; omega) _, ((hBX.trans ((B8.set (Or.inr rfl) _).set (Or.inr rfl) _)).set (Or.inl (by dsimp only; omega)) _).set (Or.inl (by dsimp only; omega)) _⟩
      · have hd2 : decide (D ≤ ah) = true := decide_eq_true hd
        go_wp2_with fail
        refine wp_region_later (w0 := wr) (Below.refl _ _) (by kernel_rfl) (by kernel_rfl) ?_
        repeat (go_big_quiet_step ((go_at_call 30; with_reducible exact calls_later (HD.out _))))
        refine wpQuiet_nil ?_
        intro _ hw'
        obtain ⟨y0, hw''⟩ := hw'
        subst hw''
        go_wp2_with fail
        go_roundw
        case rel =>
          exact ⟨m, by omega, hid (HGO.out hd), hid ((HT.out.below y0.ok).prog m), (hb.trans (Bex.of y0.ok)).set (Or.inr rfl) _⟩
        case measure =>
          have e1 := HT.out.c8
          have e2 := q0_8 y0
          have e3 := qf0_8 y0
          simp [intOf, go_sem, e1, e2, e3]
          omega
    · have hje : (j : Int) + 1 = (len : Int) := by omega
      have hd1 : decide ((len : Int) < (len : Int)) = false := by simp
      have hjJ : j = J := by rw [← HA.out]; exact (adv_stop (fun h => hm1 h.1) _).symm
      subst hjJ
      have hsz0 : w.heap.size + 1 < (wr).heap.size := by have h9 := (hb).size; simp only [alloc_size] at h9; omega
      have hgl0 := (HT.out).lt
      have q0_0 : ∀ (z : Later (wr)), z.val.cell? ⟨g, 0, none⟩ = some (.slice (some ⟨g2, 0, none⟩) len cap) := fun z => (z.cell hgl0).trans (HT.out).c0
      have q0_1 : ∀ (z : Later (wr)), z.val.cell? ⟨g, 1, none⟩ = some (.int .i64 S) := fun z => (z.cell hgl0).trans (HT.out).c1
      have q0_3 : ∀ (z : Later (wr)), z.val.cell? ⟨g, 3, none⟩ = some (.int .i64 B) := fun z => (z.cell hgl0).trans (HT.out).c3
      have q0_6 : ∀ (z : Later (wr)), z.val.cell? ⟨g, 6, none⟩ = some (.int .i64 ah) := fun z => (z.cell hgl0).trans (HT.out).c6
      have q0_7 : ∀ (z : Later (wr)), z.val.cell? ⟨g, 7, none⟩ = some (.int .i64 tl) := fun z => (z.cell hgl0).trans (HT.out).c7
      have q0_8 : ∀ (z : Later (wr)), z.val.cell? ⟨g, 8, none⟩ = some (.int .i64 j) := fun z => (z.cell hgl0).trans (HT.out).c8
      have q0_9 : ∀ (z : Later (wr)), z.val.cell? ⟨g, 9, none⟩ = some (.int .i64 ax) := fun z => (z.cell hgl0).trans (HT.out).c9
      have q0_10 : ∀ (z : Later (wr)), z.val.cell? ⟨g, 10, none⟩ = some (.int .i64 ay) := fun z => (z.cell hgl0).trans (HT.out).c10
      have qf0_8 : ∀ (z : Later (wr)), z.val.frozen? ⟨g, 8, none⟩ = false := fun z => (z.frz hgl0).trans (HT.out).f8
      have qf0_9 : ∀ (z : Later (wr)), z.val.frozen? ⟨g, 9, none⟩ = false := fun z => (z.frz hgl0).trans (HT.out).f9
      have qf0_10 : ∀ (z : Later (wr)), z.val.frozen? ⟨g, 10, none⟩ = false := fun z => (z.frz hgl0).trans (HT.out).f10
      have qf0_11 : ∀ (z : Later (wr)), z.val.frozen? ⟨g, 11, none⟩ = false := fun z => (z.frz hgl0).trans (HT.out).f11
      have qm0_0 : ∀ (z : Later (wr)), z.val.cell? ⟨w.heap.size, 0, none⟩ = some (.int .i64 px) := fun z => (z.cell (by omega)).trans (((hb).cell (by simp only [alloc_size]; omega) (by omega)).trans (by simp [go_sem]))
      have qm0_1 : ∀ (z : Later (wr)), z.val.cell? ⟨w.heap.size, 1, none⟩ = some (.int .i64 py) := fun z => (z.cell (by omega)).trans (((hb).cell (by simp only [alloc_size]; omega) (by omega)).trans (by simp [go_sem]))
      have qr0_0 : ∀ (z : Later (wr)), z.val.cell? ⟨w.heap.size + 1, 0, none⟩ = some (.int .i64 0) := fun z => (z.cell (by omega)).trans (((hb).cell (by simp only [alloc_size]; omega) (by omega)).trans (by simp [go_sem]))
      have qz0_0 : ∀ (z : Later (wr)), z.val.frozen? ⟨w.heap.size + 1, 0, none⟩ = false := fun z => (z.frz (by omega)).trans (((hb).frz (by simp only [alloc_size]; omega) (by omega)).trans (by simp [go_sem]))
      have qr0_1 : ∀ (z : Later (wr)), z.val.cell? ⟨w.heap.size + 1, 1, none⟩ = some (.int .i64 0) := fun z => (z.cell (by omega)).trans (((hb).cell (by simp only [alloc_size]; omega) (by omega)).trans (by simp [go_sem]))
      have qz0_1 : ∀ (z : Later (wr)), z.val.frozen? ⟨w.heap.size + 1, 1, none⟩ = false := fun z => (z.frz (by omega)).trans (((hb).frz (by simp only [alloc_size]; omega) (by omega)).trans (by simp [go_sem]))
      go_wp2_with fail
      refine wp_region_later (w0 := wr) (Below.refl _ _) (by kernel_rfl) (by kernel_rfl) ?_
      repeat (go_big_quiet_step (fail))
      refine wpQuiet_nil ?_
      intro _ hw'
      obtain ⟨y0, hw''⟩ := hw'
      subst hw''
      clear hd1
      clear q0_0 q0_1 q0_3 q0_6 q0_7 q0_8 q0_9 q0_10 qf0_8 qf0_9 qf0_10 qf0_11 qm0_0 qm0_1 qr0_0 qr0_1 qz0_0 qz0_1 hje
      have hf11 : y0.val.frozen? ⟨g, 11, none⟩ = false := (y0.frz HT.out.lt).trans HT.out.f11
      have hc11 := (y0.cell (o := 11) (s := none) HT.out.lt).trans HT.out.c11
      go_upto_region 6 with fail
      clear hf11 hc11
      have T5 := (HT.out.below y0.ok).on true
      have B5 : Bex g ((w.alloc (.cells #[.int .i64 px, .int .i64 py, .int .i64 vx, .int .i64 vy] 50)).alloc (.cells #[.int .i64 0, .int .i64 0] 34)) (y0.val.setCell ⟨g, 11, none⟩ (.bool true)) := (hb.trans (Bex.of y0.ok)).set (Or.inr rfl) _
      generalize y0.val.setCell ⟨g, 11, none⟩ (.bool true) = w5 at *
      have hsz5 : w.heap.size + 1 < (w5).heap.size := by have h9 := (B5).size; simp only [alloc_size] at h9; omega
      have hgl5 := (T5).lt
      have q5_0 : ∀ (z : Later (w5)), z.val.cell? ⟨g, 0, none⟩ = some (.slice (some ⟨g2, 0, none⟩) len cap) := fun z => (z.cell hgl5).trans (T5).c0
      have q5_1 : ∀ (z : Later (w5)), z.val.cell? ⟨g, 1, none⟩ = some (.int .i64 S) := fun z => (z.cell hgl5).trans (T5).c1
      have q5_3 : ∀ (z : Later (w5)), z.val.cell? ⟨g, 3, none⟩ = some (.int .i64 B) := fun z => (z.cell hgl5).trans (T5).c3
      have q5_6 : ∀ (z : Later (w5)), z.val.cell? ⟨g, 6, none⟩ = some (.int .i64 ah) := fun z => (z.cell hgl5).trans (T5).c6
      have q5_7 : ∀ (z : Later (w5)), z.val.cell? ⟨g, 7, none⟩ = some (.int .i64 tl) := fun z => (z.cell hgl5).trans (T5).c7
      have q5_8 : ∀ (z : Later (w5)), z.val.cell? ⟨g, 8, none⟩ = some (.int .i64 j) := fun z => (z.cell hgl5).trans (T5).c8
      have q5_9 : ∀ (z : Later (w5)), z.val.cell? ⟨g, 9, none⟩ = some (.int .i64 ax) := fun z => (z.cell hgl5).trans (T5).c9
      have q5_10 : ∀ (z : Later (w5)), z.val.cell? ⟨g, 10, none⟩ = some (.int .i64 ay) := fun z => (z.cell hgl5).trans (T5).c10
      have qf5_8 : ∀ (z : Later (w5)), z.val.frozen? ⟨g, 8, none⟩ = false := fun z => (z.frz hgl5).trans (T5).f8
      have qf5_9 : ∀ (z : Later (w5)), z.val.frozen? ⟨g, 9, none⟩ = false := fun z => (z.frz hgl5).trans (T5).f9
      have qf5_10 : ∀ (z : Later (w5)), z.val.frozen? ⟨g, 10, none⟩ = false := fun z => (z.frz hgl5).trans (T5).f10
      have qf5_11 : ∀ (z : Later (w5)), z.val.frozen? ⟨g, 11, none⟩ = false := fun z => (z.frz hgl5).trans (T5).f11
      have qm5_0 : ∀ (z : Later (w5)), z.val.cell? ⟨w.heap.size, 0, none⟩ = some (.int .i64 px) := fun z => (z.cell (by omega)).trans (((B5).cell (by simp only [alloc_size]; omega) (by omega)).trans (by simp [go_sem]))
      have qm5_1 : ∀ (z : Later (w5)), z.val.cell? ⟨w.heap.size, 1, none⟩ = some (.int .i64 py) := fun z => (z.cell (by omega)).trans (((B5).cell (by simp only [alloc_size]; omega) (by omega)).trans (by simp [go_sem]))
      have qr5_0 : ∀ (z : Later (w5)), z.val.cell? ⟨w.heap.size + 1, 0, none⟩ = some (.int .i64 0) := fun z => (z.cell (by omega)).trans (((B5).cell (by simp only [alloc_size]; omega) (by omega)).trans (by simp [go_sem]))
      have qz5_0 : ∀ (z : Later (w5)), z.val.frozen? ⟨w.heap.size + 1, 0, none⟩ = false := fun z => (z.frz (by omega)).trans (((B5).frz (by simp only [alloc_size]; omega) (by omega)).trans (by simp [go_sem]))
      have qr5_1 : ∀ (z : Later (w5)), z.val.cell? ⟨w.heap.size + 1, 1, none⟩ = some (.int .i64 0) := fun z => (z.cell (by omega)).trans (((B5).cell (by simp only [alloc_size]; omega) (by omega)).trans (by simp [go_sem]))
      have qz5_1 : ∀ (z : Later (w5)), z.val.frozen? ⟨w.heap.size + 1, 1, none⟩ = false := fun z => (z.frz (by omega)).trans (((B5).frz (by simp only [alloc_size]; omega) (by omega)).trans (by simp [go_sem]))
      have xk0 : ∀ (z : Later (w5)), z.val.cell? ⟨g2, kl * 2, none⟩ = some (.int .i64 (X kl)) := fun z => (z.cell (by omega)).trans (((B5).cell (by simp only [alloc_size]; omega) hgg).trans (HW.out kl (by omega)).1)
      have xk1 : ∀ (z : Later (w5)), z.val.cell? ⟨g2, kl * 2 + 1, none⟩ = some (.int .i64 (Y kl)) := fun z => (z.cell (by omega)).trans (((B5).cell (by simp only [alloc_size]; omega) hgg).trans (HW.out kl (by omega)).2)
      have HLA := hid (fun (z : Later w5) => last_any g g2 len cap kl (X kl) (Y kl) hl hlm hkl z.val (Nat.lt_of_lt_of_le hgl5 z.size) (by have := z.size; omega) (q5_0 z) (xk0 z) (xk1 z))
      have HDL : Hid (∀ w, Calls Try.prog 30 #[pt px py, pt (X kl) (Y kl)] w fun e w' => e = .returned (.int .i64 Lf) ∧ Below w.heap.size w w') := hid (fun w => by rw [← hL.out]; exact dst_call (i := kl) (X := X) (Y := Y) p1 p2 p3 p4 (hr.out kl (by omega)) w)
      go_wp2_with fail
      refine wp_region_later (w0 := w5) (Below.refl _ _) (by kernel_rfl) (by kernel_rfl) ?_
      repeat (go_big_quiet_step (first | (go_at_call 31; with_reducible exact calls_later (HLA.out _)) | (go_at_call 30; with_reducible exact calls_later (HDL.out _))))
      refine wpQuiet_nil ?_
      intro _ hw'
      obtain ⟨y6, hw''⟩ := hw'
      subst hw''
      have hsz6 := y6.size
      go_upto_region 9 with (first
        | (go_at_call 31; (with_reducible refine (HLA.out y6).mono ?_); rintro e w8 ⟨rfl, hb8⟩
           have T8 := (T5.below y6.ok).below hb8
           have B8 : Bex g ((w.alloc (.cells #[.int .i64 px, .int .i64 py, .int .i64 vx, .int .i64 vy] 50)).alloc (.cells #[.int .i64 0, .int .i64 0] 34)) w8 := (B5.trans (Bex.of y6.ok)).trans (Bex.of hb8)
           have g8 := T8.f9; have g8' := T8.f10; have g9 := T8.c9; have g9' := T8.c10
           have hs8 := hb8.size
           have r0 := (hb8.cell (p := ⟨w.heap.size + 1, 0, none⟩) (by dsimp only; omega)).trans (qr5_0 y6)
           have r1 := (hb8.cell (p := ⟨w.heap.size + 1, 1, none⟩) (by dsimp only; omega)).trans (qr5_1 y6)
           have z0 := (hb8.frozen (p := ⟨w.heap.size + 1, 0, none⟩) (by dsimp only; omega)).trans (qz5_0 y6)
           have z1 := (hb8.frozen (p := ⟨w.heap.size + 1, 1, none⟩) (by dsimp only; omega)).trans (qz5_1 y6)))
      go_wp2_with fail
      have hne : (g == w.heap.size + 1) = false := by simp; omega
      refine bodyPost_ret (v := .tuple #[pt 0 0, .bool true]) (by simp [results, Try.results16, go_sem, r0, r1, z0, z1]) rfl ?_
      exact ⟨rfl, ((T8.aim _ _).far (by dsimp only; omega) _).far (by dsimp only; omega) _, ((hBX.trans ((B8.set (Or.inr rfl) _).set (Or.inr rfl) _)).set (Or.inl (by dsimp only; omega)) _).set (Or.inl (by dsimp only; omega)) _⟩
end Go.Proofs.Ytdcclpdnnhaeoaa
