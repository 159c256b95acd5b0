/- Walks: Collides. -/
import Derived.Test.YthfpdlkeagoamaaWp
import Derived.Deep.DeepCutAuto
namespace Go.Proofs.Ythfpdlkeagoamaa
open Go.RowKit
set_option linter.unusedVariables false
def Mos (w : World) (a : Option Addr) (n : Nat) (F : Nat → Int × Int × Int × Int) : Prop := 0 < n → ∃ b off, a = some ⟨b, off, none⟩ ∧ b < w.heap.size ∧ ∀ i, i < n → w.cell? ⟨b, off + i * 4, none⟩ = some (.int .i64 (F i).1) ∧ w.cell? ⟨b, off + i * 4 + 1, none⟩ = some (.int .i64 (F i).2.1) ∧ w.cell? ⟨b, off + i * 4 + 2, none⟩ = some (.int .i64 (F i).2.2.1) ∧ w.cell? ⟨b, off + i * 4 + 3, none⟩ = some (.int .i64 (F i).2.2.2) ∧
  -9223372036854775808 ≤ (F i).1 ∧ (F i).1 ≤ 9223372036854775807 ∧ -9223372036854775808 ≤ (F i).2.1 ∧ (F i).2.1 ≤ 9223372036854775807
def hit (fr : Nat → Bool) : Nat → Bool
  | 0 => false
  | k + 1 => hit fr k || !fr k
theorem hit_at {fr : Nat → Bool} {k : Nat} (h : fr k = false) : ∀ n, k < n → hit fr n = true
  | n + 1, hk => by
    unfold hit
    rcases Nat.lt_or_ge k n with h' | h'
    · rw [hit_at h n h']; rfl
    · have : k = n := by omega
      subst this
      rw [h]; simp
def ok3 (size GW GH : Int) : Bool := inB size 1 1048576 && (inB GW 1 48 && inB GH 1 48)
def colR (size GW GH : Int) (clen n : Nat) (fr : Nat → Bool) : Bool := if ok3 size GW GH && decide ((clen : Int) = GW * GH) then hit fr n else decide (0 < n)
theorem ok3_true {size GW GH : Int} (h : ok3 size GW GH = true) : 1 ≤ size ∧ size ≤ 1048576 ∧ 1 ≤ GW ∧ GW ≤ 48 ∧ 1 ≤ GH ∧ GH ≤ 48 := by
  unfold ok3 at h
  simp only [Bool.and_eq_true] at h
  have := inB_true h.1
  have := inB_true h.2.1
  have := inB_true h.2.2
  omega
set_option maxHeartbeats 8000000 in
theorem coll_core (GW GH : Int) (ca : Option Addr) (clen ccap : Nat) (c : Nat → Int) (size : Int) (ma : Option Addr) (n mcap : Nat) (F : Nat → Int × Int × Int × Int) (fr : Nat → Bool) (R : Bool) (HFR0 : Hid ((fun i => freeB GW GH size (F i).1 (F i).2.1 c) = fr)) (HR9 : Hid (colR size GW GH clen n fr = R)) (hn : n ≤ 60) (hcl : clen ≤ 2500) (w : World) (hc : Hid (Costs w ca clen c)) (hm : Hid (Mos w ma n F)) :
    Calls Try.prog 26 #[gv GW GH ca clen ccap, .int .i64 size, .slice ma n mcap] w fun e w' => e = .returned (.bool R) ∧ Below w.heap.size w w' := by
  have hn' : (n : Int) ≤ 60 := by omega
  go_enter Try.func26, Try.ntmps26
  go_upto_region 1 with fail
  go_cut [7] (fun s7 wq => s7 = .bool (ok3 size GW GH) ∧ wq = (w.alloc (.cells #[.int .i64 GW, .int .i64 GH, .slice ca clen ccap] 46)))
  case first =>
    cases e1 : inB size 1 1048576 with
    | false =>
      have hv : Hid (ok3 size GW GH = false) := hid (by unfold ok3; rw [e1]; rfl)
      go_wp2_with (first | (go_at_call 28; (with_reducible refine (within_any _ _ _ _).mono ?_); rintro e w3 ⟨rfl, rfl⟩))
      go_meet
      case rel => exact ⟨by rw [hv.out], rfl⟩
    | true =>
      cases e2 : inB GW 1 48 with
      | false =>
        have hv : Hid (ok3 size GW GH = false) := hid (by unfold ok3; rw [e1, e2]; rfl)
        go_wp2_with (first | (go_at_call 28; (with_reducible refine (within_any _ _ _ _).mono ?_); rintro e w3 ⟨rfl, rfl⟩))
        go_meet
        case rel => exact ⟨by rw [hv.out], rfl⟩
      | true =>
        have hv : Hid (ok3 size GW GH = inB GH 1 48) := hid (by unfold ok3; rw [e1, e2]; rfl)
        go_wp2_with (first | (go_at_call 28; (with_reducible refine (within_any _ _ _ _).mono ?_); rintro e w3 ⟨rfl, rfl⟩))
        go_meet
        case rel => exact ⟨by rw [hv.out], rfl⟩
  case rest =>
    obtain ⟨rfl, rfl⟩ := hcut
    cases eo : ok3 size GW GH with
    | false =>
      have HE : Hid (R = decide (0 < n)) := hid (by rw [← HR9.out]; unfold colR; rw [eo]; rfl)
      have HR0 : Hid (0 < n → true = R) := hid (fun h => by rw [HE.out]; simp [h])
      go_wp2_with fail
      go_loopw [24] (fun s24 wr => ∃ k : Nat, s24 = .int .i64 k ∧ k ≤ n ∧ Hid (k = 0) ∧ Below (w.alloc (.cells #[.int .i64 GW, .int .i64 GH, .slice ca clen ccap] 46)).heap.size (w.alloc (.cells #[.int .i64 GW, .int .i64 GH, .slice ca clen ccap] 46)) wr) (fun s24 _ => n - (intOf s24).toNat)
      case atStart => exact ⟨0, rfl, Nat.zero_le _, hid rfl, Below.refl _ _⟩
      case round =>
        obtain ⟨k, rfl, hk, HK0, hb⟩ := hrel
        have hsr : w.heap.size < wr.heap.size := by have := hb.size; simp at this; omega
        have hg0 : ∀ o, wr.cell? ⟨w.heap.size, o, none⟩ = (w.alloc (.cells #[.int .i64 GW, .int .i64 GH, .slice ca clen ccap] 46)).cell? ⟨w.heap.size, o, none⟩ := fun o => hb.cell (by simp <;> omega)
        by_cases hkT : k < n
        · obtain ⟨b, off, rfl, hbw, hcell⟩ := hm.out (by omega)
          obtain ⟨x0, x1, x2, x3, _⟩ := hcell k hkT
          have y0 := ((below_box hb).cell (p := ⟨b, off + k * 4, none⟩) hbw).trans x0
          have y1 := ((below_box hb).cell (p := ⟨b, off + k * 4 + 1, none⟩) hbw).trans x1
          have y2 := ((below_box hb).cell (p := ⟨b, off + k * 4 + 2, none⟩) hbw).trans x2
          have y3 := ((below_box hb).cell (p := ⟨b, off + k * 4 + 3, none⟩) hbw).trans x3
          clear hcell x0 x1 x2 x3
          have hkI : (k : Int) < (n : Int) := by omega
          have hkI0 : (0 : Int) ≤ (k : Int) := by omega
          go_wp2_with fail
          go_ret
          exact ⟨ret_bool (HR0.out (by omega)), (below_box hb).alloc (by omega) _⟩
        · go_wp2_with fail
          go_ret
          exact ⟨ret_bool (by rw [HE.out]; simp; have := HK0.out; omega), below_box hb⟩
    | true =>
      obtain ⟨s1, s2, g1, g2, g3, g4⟩ := ok3_true eo
      have ar := grid_area g1 g2 g3 g4
      by_cases hl : (clen : Int) = GW * GH
      · have HR : Hid (R = hit fr n) := hid (by rw [← HR9.out]; unfold colR; rw [eo, decide_eq_true hl]; rfl)
        have hl1 : ((clen : Int) != GW * GH) = false := by simp [hl]
        have HFREE : Hid (∀ k, k < n → ∀ {b : Bool}, fr k = b → ∀ w', Below w.heap.size w w' → Calls Try.prog 42 #[gv GW GH ca clen ccap, .int .i64 size, pt (F k).1 (F k).2.1] w' fun e w'' => e = .returned (.bool b) ∧ Below w'.heap.size w' w'') := hid (fun k hk b hb w' h => by
          obtain ⟨_, _, _, _, hx⟩ := hm.out (by omega)
          obtain ⟨_, _, _, _, p1, p2, p3, p4⟩ := hx k hk
          rw [← hb, ← HFR0.out]
          exact free_any GW GH ca clen ccap c size _ _ g1 g2 g3 g4 s1 s2 p1 p2 p3 p4 hl w' (hid (costs_below hc.out h)))
        clear hl eo
        go_wp2_with fail
        go_loopw [24] (fun s24 wr => ∃ k : Nat, s24 = .int .i64 k ∧ k ≤ n ∧ Hid (hit fr k = false) ∧ Below (w.alloc (.cells #[.int .i64 GW, .int .i64 GH, .slice ca clen ccap] 46)).heap.size (w.alloc (.cells #[.int .i64 GW, .int .i64 GH, .slice ca clen ccap] 46)) wr) (fun s24 _ => n - (intOf s24).toNat)
        case atStart => exact ⟨0, rfl, Nat.zero_le _, hid rfl, Below.refl _ _⟩
        case round =>
          obtain ⟨k, rfl, hk, HH, hb⟩ := hrel
          have hsr : w.heap.size < wr.heap.size := by have := hb.size; simp at this; omega
          have hg0 : ∀ o, wr.cell? ⟨w.heap.size, o, none⟩ = (w.alloc (.cells #[.int .i64 GW, .int .i64 GH, .slice ca clen ccap] 46)).cell? ⟨w.heap.size, o, none⟩ := fun o => hb.cell (by simp <;> omega)
          by_cases hkT : k < n
          · obtain ⟨b, off, rfl, hbw, hcell⟩ := hm.out (by omega)
            obtain ⟨x0, x1, x2, x3, _⟩ := hcell k hkT
            have y0 := ((below_box hb).cell (p := ⟨b, off + k * 4, none⟩) hbw).trans x0
            have y1 := ((below_box hb).cell (p := ⟨b, off + k * 4 + 1, none⟩) hbw).trans x1
            have y2 := ((below_box hb).cell (p := ⟨b, off + k * 4 + 2, none⟩) hbw).trans x2
            have y3 := ((below_box hb).cell (p := ⟨b, off + k * 4 + 3, none⟩) hbw).trans x3
            clear hcell x0 x1 x2 x3
            have hkI : (k : Int) < (n : Int) := by omega
            have hkI0 : (0 : Int) ≤ (k : Int) := by omega
            cases ef : fr k with
            | false =>
              have HFR := hid (HFREE.out k hkT ef)
              go_wp2_with (first | (go_at_call 42; (with_reducible refine (HFR.out _ ((below_box hb).alloc (by omega) _)).mono ?_); rintro e w5 ⟨rfl, hb5⟩))
              go_ret
              exact ⟨ret_bool (by rw [HR.out, hit_at ef n hkT]), ((below_box hb).alloc (by omega) _).trans (hb5.mono (by rw [alloc_size]; omega))⟩
            | true =>
              have HFR := hid (HFREE.out k hkT ef)
              have HH2 : Hid (hit fr (k + 1) = false) := hid (by unfold hit; rw [HH.out, ef]; rfl)
              go_wp2_with (first | (go_at_call 42; (with_reducible refine (HFR.out _ ((below_box hb).alloc (by omega) _)).mono ?_); rintro e w5 ⟨rfl, hb5⟩))
              go_roundw
              case rel => exact ⟨k + 1, by go_num, by omega, HH2, (hb.alloc hb.size _).trans (hb5.mono (by rw [alloc_size]; have := hb.size; simp at this ⊢; omega))⟩
              case measure => simp [intOf]; omega
          · go_wp2_with fail
            go_ret
            exact ⟨ret_bool (by rw [HR.out, show n = k from by omega]; exact HH.out.symm), below_box hb⟩
      · have HE : Hid (R = decide (0 < n)) := hid (by rw [← HR9.out]; unfold colR; rw [eo, decide_eq_false hl]; rfl)
        have hl1 : ((clen : Int) != GW * GH) = true := by simp [hl]
        have HR0 : Hid (0 < n → true = R) := hid (fun h => by rw [HE.out]; simp [h])
        clear hl eo
        go_wp2_with fail
        go_loopw [24] (fun s24 wr => ∃ k : Nat, s24 = .int .i64 k ∧ k ≤ n ∧ Hid (k = 0) ∧ Below (w.alloc (.cells #[.int .i64 GW, .int .i64 GH, .slice ca clen ccap] 46)).heap.size (w.alloc (.cells #[.int .i64 GW, .int .i64 GH, .slice ca clen ccap] 46)) wr) (fun s24 _ => n - (intOf s24).toNat)
        case atStart => exact ⟨0, rfl, Nat.zero_le _, hid rfl, Below.refl _ _⟩
        case round =>
          obtain ⟨k, rfl, hk, HK0, hb⟩ := hrel
          have hsr : w.heap.size < wr.heap.size := by have := hb.size; simp at this; omega
          have hg0 : ∀ o, wr.cell? ⟨w.heap.size, o, none⟩ = (w.alloc (.cells #[.int .i64 GW, .int .i64 GH, .slice ca clen ccap] 46)).cell? ⟨w.heap.size, o, none⟩ := fun o => hb.cell (by simp <;> omega)
          by_cases hkT : k < n
          · obtain ⟨b, off, rfl, hbw, hcell⟩ := hm.out (by omega)
            obtain ⟨x0, x1, x2, x3, _⟩ := hcell k hkT
            have y0 := ((below_box hb).cell (p := ⟨b, off + k * 4, none⟩) hbw).trans x0
            have y1 := ((below_box hb).cell (p := ⟨b, off + k * 4 + 1, none⟩) hbw).trans x1
            have y2 := ((below_box hb).cell (p := ⟨b, off + k * 4 + 2, none⟩) hbw).trans x2
            have y3 := ((below_box hb).cell (p := ⟨b, off + k * 4 + 3, none⟩) hbw).trans x3
            clear hcell x0 x1 x2 x3
            have hkI : (k : Int) < (n : Int) := by omega
            have hkI0 : (0 : Int) ≤ (k : Int) := by omega
            go_wp2_with fail
            go_ret
            exact ⟨ret_bool (HR0.out (by omega)), (below_box hb).alloc (by omega) _⟩
          · go_wp2_with fail
            go_ret
            exact ⟨ret_bool (by rw [HE.out]; simp; have := HK0.out; omega), below_box hb⟩
theorem coll_any (GW GH : Int) (ca : Option Addr) (clen ccap : Nat) (c : Nat → Int) (size : Int) (ma : Option Addr) (n mcap : Nat) (F : Nat → Int × Int × Int × Int) (hn : n ≤ 60) (hcl : clen ≤ 2500) (w : World) (hc : Hid (Costs w ca clen c)) (hm : Hid (Mos w ma n F)) :
    Calls Try.prog 26 #[gv GW GH ca clen ccap, .int .i64 size, .slice ma n mcap] w fun e w' => e = .returned (.bool (colR size GW GH clen n (fun i => freeB GW GH size (F i).1 (F i).2.1 c))) ∧ Below w.heap.size w w' :=
  coll_core GW GH ca clen ccap c size ma n mcap F _ _ (hid rfl) (hid rfl) hn hcl w hc hm
end Go.Proofs.Ythfpdlkeagoamaa
