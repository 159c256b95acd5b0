/- Walks: Route at every argument; the examples of the chapter. -/
import Derived.Test.YthklehpekglohaaDoorWg
namespace Go.Proofs.YthklehpekglohaaDoor
open Go.RowKit
set_option linter.unusedVariables false
set_option linter.unusedSimpArgs false
/-- the route, if there is one -/
def rt (fr tg : Int) : Option (List Int) := (bfs tg 30 [(fr, [])] (fun _ => false)).getD none
theorem rt_some {fr tg : Int} (h1 : 1 ≤ fr) (h2 : fr ≤ 4) (h3 : 1 ≤ tg) (h4 : tg ≤ 4) : bfs tg 30 [(fr, [])] (fun _ => false) = some (rt fr tg) := by
  rcases four h1 h2 with rfl | rfl | rfl | rfl <;> rcases four h3 h4 with rfl | rfl | rfl | rfl <;> rfl
/-- out of range -/
def oor (fr tg : Int) : Bool := decide (fr < 1) || decide (4 < fr) || decide (tg < 1) || decide (4 < tg)
/-- the error of a route -/
def rte (fr tg : Int) : Int := if oor fr tg then 4 else if (rt fr tg).isSome then 0 else 6
/-- the transitions of a route -/
def rtl (fr tg : Int) : List Int := if oor fr tg then [] else (rt fr tg).getD []
theorem route_any (fr tg : Int) (w : World) (hR : Rules w) : Calls Tryd.prog 7 #[.int .i64 fr, .int .i64 tg] w fun e w' => ∃ v, e = .returned (.tuple #[v, .int .i64 (rte fr tg)]) ∧ RdI w' v (rtl fr tg) ∧ Below w.heap.size w w' := by
  unfold rte rtl
  by_cases h1 : fr < 1 ∨ 4 < fr
  · have ho : oor fr tg = true := by simp [oor]; omega
    rw [ho]
    have hc : (decide (1 ≤ fr) && decide (fr ≤ 4)) = false := by simp; omega
    have H := hid (fun w => by have := in31 fr 1 4 w; rwa [hc] at this : ∀ w, Calls Tryd.prog 31 #[.int .i64 fr, .int .i64 1, .int .i64 4] w fun e w' => e = .returned (.bool false) ∧ w = w')
    clear hc hR ho
    go_enter Tryd.func7, Tryd.ntmps7
    go_wp2_with (first | (go_at_call 31; (with_reducible refine (H.out _).mono ?_); rintro e w1 ⟨rfl, rfl⟩))
    refine bodyPost_ret (v := .tuple #[.slice none 0 0, .int .i64 4]) (by simp [results, Tryd.results7, go_sem]) rfl ?_
    exact ⟨_, rfl, ⟨none, 0, rfl, Nat.le_refl _, Nat.zero_le _, fun h => absurd h (by simp)⟩, Below.refl _ _⟩
  · by_cases h2 : tg < 1 ∨ 4 < tg
    · have ho : oor fr tg = true := by simp [oor]; omega
      rw [ho]
      have hc : (decide (1 ≤ fr) && decide (fr ≤ 4)) = true := by simp; omega
      have hd : (decide (1 ≤ tg) && decide (tg ≤ 4)) = false := by simp; omega
      have H := hid (fun w => by have := in31 fr 1 4 w; rwa [hc] at this : ∀ w, Calls Tryd.prog 31 #[.int .i64 fr, .int .i64 1, .int .i64 4] w fun e w' => e = .returned (.bool true) ∧ w = w')
      have H2 := hid (fun w => by have := in31 tg 1 4 w; rwa [hd] at this : ∀ w, Calls Tryd.prog 31 #[.int .i64 tg, .int .i64 1, .int .i64 4] w fun e w' => e = .returned (.bool false) ∧ w = w')
      clear hc hd hR ho
      go_enter Tryd.func7, Tryd.ntmps7
      go_wp2_with (first | (go_at_call 31; first | ((with_reducible refine (H.out _).mono ?_); rintro e w1 ⟨rfl, rfl⟩) | ((with_reducible refine (H2.out _).mono ?_); rintro e w1 ⟨rfl, rfl⟩)))
      refine bodyPost_ret (v := .tuple #[.slice none 0 0, .int .i64 4]) (by simp [results, Tryd.results7, go_sem]) rfl ?_
      exact ⟨_, rfl, ⟨none, 0, rfl, Nat.le_refl _, Nat.zero_le _, fun h => absurd h (by simp)⟩, Below.refl _ _⟩
    · have ho : oor fr tg = false := by simp [oor]; omega
      rw [ho]
      exact route_in fr tg (rt fr tg) (by omega) (by omega) (by omega) (by omega) (rt_some (by omega) (by omega) (by omega) (by omega)) w hR
theorem rd2 {w : World} (a b : Int) (t : TypeId) (fz : Nat × Nat) (hf : fz = (0, 0) := by rfl) : RdI (w.alloc (.cells #[.int .i64 a, .int .i64 b] t fz)) (.slice (some ⟨w.heap.size, 0, none⟩) 2 2) [a, b] := by
  subst hf
  refine ⟨_, 2, rfl, Nat.le_refl _, by unfold maxLen; simp, fun _ => ⟨w.heap.size, 0, rfl, by simp, fun i u e => ?_⟩⟩
  rw [Nat.zero_add]
  refine ((block_cells (heap_alloc_new w _)).1 i).trans ?_
  have hi : i < 2 := (List.getElem?_eq_some_iff.1 e).1
  have hi' : i = 0 ∨ i = 1 := by omega
  rcases hi' with rfl | rfl <;> simp at e <;> subst e <;> rfl
set_option maxHeartbeats 8000000 in
set_option maxRecDepth 100000 in
theorem awake_any (w : World) (hR : Rules w) : Calls Tryd.prog 10 #[] w fun e w' => e = .returned (.bool true) ∧ Below w.heap.size w w' := by
  have hpos := hR.pos
  have HR := hid hR
  clear hR
  go_enter Tryd.func10, Tryd.ntmps10
  go_upto_region 2 with (first
    | (go_at_call 13; (with_reducible refine (new_any _).mono ?_); rintro e w1 ⟨g, h, rfl, hg, hh, hm, hb1⟩; have HM1 := hid hm; have HR1 := hid (HR.out.below hpos hb1); clear hm))
  have D1 : Hid (∀ w, Rules w → Mc w g h 1 1 0 [1] → Calls Tryd.prog 15 #[.pointer (some ⟨g, 0, none⟩), .int .i64 2, .bool true] w fun e w' => e = .returned (.int .i64 10) ∧ Below w.heap.size w w') := hid (fun w a b => do_err 2 true w a b (by decide))
  have D2 : Hid (∀ w, Rules w → Mc w g h 1 1 0 [1] → Calls Tryd.prog 15 #[.pointer (some ⟨g, 0, none⟩), .int .i64 1, .bool true] w fun e w' => e = .returned (.int .i64 0) ∧ ∃ h' cap', Mc w' g h' cap' 2 0 [1, 2] ∧ Bx g h w w' ∧ (h' = h ∨ w.heap.size ≤ h')) := hid (fun w a b => do_short_true 1 w a b (by decide) (by decide) (by decide) (by decide))
  have D3 : Hid (∀ w h cap, Rules w → Mc w g h cap 2 0 [1, 2] → Calls Tryd.prog 15 #[.pointer (some ⟨g, 0, none⟩), .int .i64 2, .bool false] w fun e w' => e = .returned (.int .i64 0) ∧ ∃ h' cap', Mc w' g h' cap' 2 1 [1, 2, 2] ∧ Bx g h w w' ∧ (h' = h ∨ w.heap.size ≤ h')) := hid (fun w h cap a b => do_short_false 2 w a b (by decide) (by decide) (by decide) (by decide))
  go_upto_region 4 with (first
    | (go_at_call 15; first
       | ((with_reducible refine (D1.out _ HR1.out HM1.out).mono ?_); rintro e w2 ⟨rfl, hb2⟩; have hs2 := hb2.size
          have HM2 := hid (HM1.out.below hb2)
          have HR2 := hid (HR1.out.below (Nat.lt_of_lt_of_le hpos hb1.size) hb2)
          have hb12 := hb1.trans (hb2.mono hb1.size))
       | ((with_reducible refine (D2.out _ HR2.out HM2.out).mono ?_); rintro e w3 ⟨rfl, h3, cap3, hm3, hx3, hh3⟩
          have hb13 := hx3.below hb12 hg hh hb12.size
          have HM3 := hid hm3
          have HR3 := hid (HR.out.below hpos hb13)
          have HH3 := hid hh3
          clear hm3 hh3)
       | ((with_reducible refine (D3.out _ _ _ HR3.out HM3.out).mono ?_); rintro e w4 ⟨rfl, h4, cap4, hm4, hx4, hh4⟩
          have hs12 := hb12.size
          have hb14 := hx4.below hb13 hg (by have := HH3.out; omega) hb13.size
          have HM4 := hid hm4
          have HR4 := hid (HR.out.below hpos hb14)
          clear hm4 hh4)))
  have hrl : rtl 3 1 = [3, 4] := rfl
  have hre : rte 3 1 = 0 := rfl
  have HRT := hid (fun w h => route_any 3 1 w h)
  rw [hrl, hre] at HRT
  clear hrl hre
  have hsn : sname 3 = { data := #[97, 99, 116, 105, 118, 101] } := by simp [sname]
  have HSN := hid (fun w => name27 3 w)
  rw [hsn] at HSN
  clear hsn D1 D2 D3
  have HMX : Hid (∀ w' , Below w4.heap.size w4 w' → Mc w' g h4 cap4 2 1 [1, 2, 2]) := hid (fun w' hb => HM4.out.below hb)
  go_wp2_with (first
    | (go_at_call 7; (with_reducible refine (HRT.out _ HR4.out).mono ?_); rintro e w5 ⟨v5, rfl, hv5, hb5⟩; have HV5 := hid hv5; have HM5 := hid (HMX.out _ hb5); clear hv5)
    | (go_at_call 17; (with_reducible refine (state_any _ HM5.out).mono ?_); rintro e w6 ⟨rfl, rfl⟩)
    | (go_at_call 19; (with_reducible refine (fail_any _ HM5.out).mono ?_); rintro e w6 ⟨rfl, rfl⟩)
    | (go_at_call 9; (with_reducible refine (same_any _ _ [3, 4] [3, 4] _ (rdI_below HV5.out ((Below.refl _ _).alloc (Nat.le_refl _) _)) (rd2 3 4 _ _)).mono ?_); rintro e w7 ⟨rfl, hb7⟩)
    | (go_at_call 27; (with_reducible refine (HSN.out _).mono ?_); rintro e w8 ⟨rfl, rfl⟩))
  go_ret
  have hs5 := hb5.size
  exact ⟨rfl, (hb14.trans (hb5.mono hb14.size)).trans (((Below.refl _ _).alloc (Nat.le_refl _) _).trans (hb7.mono (by rw [alloc_size]; omega)) |>.mono (by have := hb14.size; omega))⟩
end Go.Proofs.YthklehpekglohaaDoor
