/- Walks: a new supervisor. -/
import Derived.Test.YtfcianhmfpenhaaXc
namespace Go.Proofs.Ytfcianhmfpenhaa
open Go.RowKit Go.Maps
set_option linter.unusedVariables false
set_option linter.unusedSimpArgs false
theorem rep_empty : Rep (.map []) (fun _ => none) := ⟨isMap_empty, fun i hi => ⟨fun _ => rfl, fun a x y h => by cases h⟩⟩
theorem per_new (w : World) (H kp : Int) : Per ((w.alloc (.map #[] 0)).alloc (.cells #[.int .i64 H, .int .i64 kp, .map (some w.heap.size)] 66)) (w.heap.size + 1) w.heap.size H kp 0 (fun _ => none) where
  lt := by simp
  c0 := by simp [go_sem]
  c1 := by simp [go_sem]
  c2 := by simp [go_sem]
  map := ⟨_, (World.ownsMap_made w _ _ _).alloc _, rep_empty⟩
set_option maxRecDepth 100000 in
theorem pnew_ok (H kp : Int) (h1 : 0 ≤ H) (h2 : H ≤ 4096) (k1 : 0 ≤ kp) (k2 : kp ≤ 1099511627776) (w : World) :
    Calls Try.prog 18 #[.int .i64 H, .int .i64 kp] w fun e w' => e = .returned (.tuple #[.pointer (some ⟨w.heap.size + 1, 0, none⟩), .int .i64 0]) ∧ Per w' (w.heap.size + 1) w.heap.size H kp 0 (fun _ => none) ∧ Below w.heap.size w w' := by
  have hmm := @run_makeMap Try.prog
  go_enter Try.func18, Try.ntmps18
  go_wp2
  (try simp only [Exit.inBlock, Exit.then])
  refine bodyPost_ret (v := .tuple #[.pointer (some ⟨w.heap.size + 1, 0, none⟩), .int .i64 0]) (by simp [results, Try.results18, go_sem]) rfl ?_
  exact ⟨rfl, per_new _ _ _, by go_grown⟩
set_option maxRecDepth 100000 in
set_option maxHeartbeats 2000000 in
theorem new_ok (S A B H M kp : Int) (hk : chk S A B H M = true) (k1 : 1 ≤ kp) (k2 : kp ≤ 1099511627776) (w : World) :
    Calls Try.prog 7 #[lim S A B H M, .int .i64 kp] w fun e w' => ∃ sb pb mb, e = .returned (.tuple #[.pointer (some ⟨sb, 0, none⟩), .int .i64 0]) ∧ Sup w' sb pb S A B H M kp 0 1 ∧ Per w' pb mb H kp 0 (fun _ => none) ∧ w.heap.size ≤ sb ∧ w.heap.size ≤ pb ∧ w.heap.size ≤ mb ∧ sb ≠ pb ∧ sb ≠ mb ∧ pb ≠ mb ∧ Below w.heap.size w w' := by
  obtain ⟨_, _, _, _, _, _, q1, q2, _, _⟩ := chk_true hk
  have HK := hid (fun w => by have := check_any S A B H M w; rw [chkE_true hk] at this; exact this)
  have HN := hid (fun w => pnew_ok H kp q1 q2 (by omega) k2 w)
  clear hk q1 q2
  go_enter Try.func7, Try.ntmps7
  go_wp2_with (first
    | (go_at_call 17; (with_reducible refine (HK.out _).mono ?_); rintro e w2 ⟨rfl, hb⟩; obtain ⟨hc, hf⟩ := bcell hb; have hz : w.heap.size < w2.heap.size := (by have := hb.size; simp at this; omega))
    | (go_at_call 18; (with_reducible refine (HN.out _).mono ?_); rintro e w3 ⟨rfl, hp3, hb3⟩; obtain ⟨hc3, hf3⟩ := bcell hb3; have hz3 := hb3.size; have HP := hid hp3; clear hp3))
  (try simp only [Exit.inBlock, Exit.then])
  refine bodyPost_ret (v := .tuple #[.pointer (some ⟨w3.heap.size, 0, none⟩), .int .i64 0]) (by simp [results, Try.results7, go_sem]) rfl ?_
  have hs2 := hb.size
  simp at hs2
  have hlp := HP.out.lt
  refine ⟨w3.heap.size, _, _, rfl, ?_, HP.out.below ((Below.refl _ _).alloc (Nat.le_refl _) _), by omega, by omega, by omega, by omega, by omega, by omega, ?_⟩
  · constructor <;> first | (go_simp <;> simp; done) | simp
  · exact ((below_box hb).trans (hb3.mono (by omega))).alloc (by omega) _
end Go.Proofs.Ytfcianhmfpenhaa
