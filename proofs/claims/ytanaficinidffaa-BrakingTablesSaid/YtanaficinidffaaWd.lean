import Derived.Test.YtanaficinidffaaWc
namespace Go.Proofs.Ytanaficinidffaa
open Go.RowKit

theorem ex1 : wayF 100 30 = 220 := by decide
theorem ex2 : tckF 100 30 = 4 := by decide
theorem ex3 : spdF 149 50 = 99 := by
  have h : (99 : Int) = spd 149 50 := spd_unique (by decide) (by decide) (by decide) (by decide) (fun _ => by decide)
  have h2 : spdF 149 50 = spd 149 50 := by simp [spdF, inB]
  rw [h2, ← h]
theorem ex4 : needF 100 100 50 50 10 500 = 680 := by decide
theorem ex5 : allowF 679 100 50 50 10 500 = 99 := by
  have h : (99 : Int) = allowF 679 100 50 50 10 500 := allow_unique (by decide) (by decide) (by decide) (by decide) (fun _ => by decide)
  exact h.symm
theorem ex6 : allowF 509 100 50 50 10 500 = -1 := allow_none (by decide)
theorem ex7 : safeF 0 510 100 50 50 10 500 = true := by decide

set_option maxHeartbeats 2000000 in
theorem awake_any (w : World) : Calls Try.prog 12 #[] w fun e w' => e = .returned (.bool true) ∧ Below w.heap.size w w' := by
  have e1 := ex1
  have e2 := ex2
  have e3 := ex3
  have e4 := ex4
  have e5 := ex5
  have e6 := ex6
  have e7 := ex7
  go_enter Try.func12, Try.ntmps12
  go_wp2_with (first
    | (go_at_call 15; refine (distance_any _ _ _).mono ?_; rintro e w' ⟨rfl, rfl⟩)
    | (go_at_call 17; refine (ticks_any _ _ _).mono ?_; rintro e w' ⟨rfl, rfl⟩)
    | (go_at_call 19; refine (pspeed_any _ _ _ (by omega)).mono ?_; rintro e w' ⟨rfl, rfl⟩)
    | (go_at_call 14; refine (need_any _ _ _ _ _ _ _).mono ?_; rintro e w1 ⟨rfl, hb⟩; obtain ⟨hc, hf⟩ := bcell hb)
    | (go_at_call 22; refine (allow_any _ _ _ _ _ _ _).mono ?_; rintro e w2 ⟨rfl, hb2⟩; replace hb := below_then hb hb2; obtain ⟨hc, hf⟩ := bcell hb)
    | (go_at_call 10; refine (safe_any _ _ _ _ _ _ _ _).mono ?_; rintro e w2 ⟨rfl, hb2⟩; replace hb := below_then hb hb2))
  go_ret
  exact ⟨rfl, below_box hb⟩
end Go.Proofs.Ytanaficinidffaa
