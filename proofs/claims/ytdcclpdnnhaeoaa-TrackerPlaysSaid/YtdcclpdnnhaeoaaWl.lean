/- Walks: awake. -/
import Derived.Test.YtdcclpdnnhaeoaaWk
namespace Go.Proofs.Ytdcclpdnnhaeoaa
open Go.RowKit
set_option linter.unusedVariables false
def aX (i : Nat) : Int := if i = 0 then 0 else 100
def aY (i : Nat) : Int := 0
theorem aw_dst : dst 96 0 aX aY 1 = 4 := by
  show isq (sqr (96 - 100) (0 - 0)) = 4
  have := isq_sq (r := 4) (by omega) (by omega)
  rw [← this]
  rfl
theorem aw_adv : adv 96 0 aX aY 2 5 (2 - 0) 0 = 1 := by
  rw [adv_go (by omega) (by rw [aw_dst]; omega)]
  exact adv_stop (fun h => by omega) _
theorem aw_spd : spd 4 10 = 4 := (spd_unique (by omega) (by omega) (by omega) (by decide) (fun _ => by decide)).symm
theorem aw_reach (i : Nat) (h : i < 2) : rchB (aX i) (aY i) = true := by
  match i, h with
  | 0, _ => decide
  | 1, _ => decide
theorem aw_next (g g2 cap : Nat) (hgg : g2 ≠ g) (w : World) (T : Hid (Trk w g (.slice (some ⟨g2, 0, none⟩) 2 cap) 10 10 10 0 0 5 0 0 0 0 false)) (hg2 : g2 < w.heap.size) (hX : Hid (∀ i, i < 2 → w.cell? ⟨g2, i * 2, none⟩ = some (.int .i64 (aX i)) ∧ w.cell? ⟨g2, i * 2 + 1, none⟩ = some (.int .i64 (aY i)))) :
    Calls Try.prog 16 #[.pointer (some ⟨g, 0, none⟩), mo 96 0 0 0] w fun e w' => e = .returned (.tuple #[pt 4 0, .bool false]) ∧ Trk w' g (.slice (some ⟨g2, 0, none⟩) 2 cap) 10 10 10 0 0 5 0 1 100 0 true ∧ Bex g w w' := by
  have h := next_on g g2 2 cap 0 96 0 0 0 aX aY 10 10 10 0 0 5 0 0 0 false (by omega) (by omega) (by omega) (hid aw_reach) (by omega) (by omega) (by omega) (by omega) (by omega) (by omega) (by omega) (by omega) hgg w T hg2 hX 1 (hid aw_adv) 4 1 rfl (hid aw_dst) (by omega) 1 (by decide)
  rw [aw_spd] at h
  exact h
set_option maxHeartbeats 2000000 in
theorem awake_any (w : World) : Calls Try.prog 7 #[] w fun e w' => e = .returned (.bool true) ∧ Below w.heap.size w w' := by
  have HWA : Hid (Wants (w.alloc (.cells #[.int .i64 0, .int .i64 0, .int .i64 100, .int .i64 0] 34)) (some ⟨w.heap.size, 0, none⟩) 2 aX aY) := hid (fun _ => ⟨w.heap.size, 0, rfl, by simp, fun i hi => by
    match i, hi with
    | 0, _ => exact ⟨by simp [go_sem, aX], by simp [go_sem, aY]⟩
    | 1, _ => exact ⟨by simp [go_sem, aX], by simp [go_sem, aY]⟩⟩)
  have hB1 : Below w.heap.size w (w.alloc (.cells #[.int .i64 0, .int .i64 0, .int .i64 100, .int .i64 0] 34)) := (Below.refl _ _).alloc (Nat.le_refl _) _
  have qe := eql_pt
  have HN := hid (fun (a : Option Addr) (cap : Nat) (w : World) (ha : Hid (Wants w a 2 aX aY)) => new_ok a 2 cap aX aY 10 10 10 0 0 5 0 (by decide) (by omega) (by omega) (by omega) (by omega) (by decide) w ha)
  go_enter Try.func7, Try.ntmps7
  go_upto_region 5 with (first
    | (go_at_call 8; (with_reducible refine (HN.out _ _ _ HWA).mono ?_); rintro e w2 ⟨g, g2, cap', rfl, hg, ht, hg2, hgg, hx, hb2⟩; have HT := hid ht; clear ht)
    | (go_at_call 16; (with_reducible refine (aw_next g g2 cap' (by omega) _ HT (by have := HT.out.lt; omega) hx).mono ?_); rintro e w3 ⟨rfl, ht3, hb3⟩))
  have hB3 : Below w.heap.size w w3 := Bex.below (hB1.trans (hb2.mono (by simp))) hb3 (by simp at hg; omega) (by have := hb2.size; simp at this; omega)
  have k8 : (w3.alloc (.cells #[.int .i64 4, .int .i64 0] 34)).cell? ⟨g, 8, none⟩ = some (.int .i64 1) := (World.cell?_alloc_lt _ _ _ ht3.lt).trans ht3.c8
  have HP := hid (progress_any g 1 _ k8)
  have hS3 := hB3.size
  clear hb2 hb3 HT ht3 k8
  go_wp2_with (first | (go_at_call 19; (with_reducible refine HP.out.mono ?_); rintro e w4 ⟨rfl, rfl⟩))
  go_ret
  exact ⟨rfl, hB3.alloc hS3 _⟩
end Go.Proofs.Ytdcclpdnnhaeoaa
