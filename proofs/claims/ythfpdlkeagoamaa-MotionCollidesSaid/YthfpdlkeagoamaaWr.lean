/- Walks: Collides, the reference's. -/
import Derived.Test.YthfpdlkeagoamaaWq
namespace Go.Proofs.Ythfpdlkeagoamaa
open Go.RowKit
set_option linter.unusedVariables false
def badB (size GW GH : Int) (clen : Nat) : Bool := !(ok3 size GW GH && decide ((clen : Int) = GW * GH))
set_option maxRecDepth 100000 in
set_option maxHeartbeats 8000000 in
theorem rcoll_core (GW GH : Int) (ca : Option Addr) (clen ccap : Nat) (c : Nat → Int) (size : Int) (ma : Option Addr) (n mcap : Nat) (F : Nat → Int × Int × Int × Int) (fr : Nat → Bool) (R : Bool) (HFR0 : Hid ((fun i => freeB GW GH size (F i).1 (F i).2.1 c) = fr)) (HR9 : Hid (colR size GW GH clen n fr = R)) (hn : n ≤ 60) (hcl : clen ≤ 2500) (w : World) (hc : Hid (Costs w ca clen c)) (hm : Hid (Mos w ma n F)) :
    Calls Try.prog 27 #[gv GW GH ca clen ccap, .int .i64 size, .slice ma n mcap] w fun e w' => e = .returned (.bool R) ∧ Below w.heap.size w w' := by
  have hn' : (n : Int) ≤ 60 := by omega
  go_enter Try.func27, Try.ntmps27
  go_upto_region 1 with fail
  go_cut [7] (fun s7 wq => s7 = .bool (badB size GW GH clen) ∧ wq = (w.alloc (.cells #[.int .i64 GW, .int .i64 GH, .slice ca clen ccap] 46)))
  case first =>
    cases e1 : inB size 1 1048576 with
    | false =>
      have hv : Hid (badB size GW GH clen = true) := hid (by unfold badB ok3; rw [e1]; rfl)
      go_wp2_with (first | (go_at_call 29; (with_reducible refine (rwithin_any _ _ _ _).mono ?_); rintro e w3 ⟨rfl, rfl⟩))
      go_meet
      case rel => exact ⟨by rw [hv.out], rfl⟩
    | true =>
      cases e2 : inB GW 1 48 with
      | false =>
        have hv : Hid (badB size GW GH clen = true) := hid (by unfold badB ok3; rw [e1, e2]; rfl)
        go_wp2_with (first | (go_at_call 29; (with_reducible refine (rwithin_any _ _ _ _).mono ?_); rintro e w3 ⟨rfl, rfl⟩))
        go_meet
        case rel => exact ⟨by rw [hv.out], rfl⟩
      | true =>
        cases e3 : inB GH 1 48 with
        | false =>
          have hv : Hid (badB size GW GH clen = true) := hid (by unfold badB ok3; rw [e1, e2, e3]; rfl)
          go_wp2_with (first | (go_at_call 29; (with_reducible refine (rwithin_any _ _ _ _).mono ?_); rintro e w3 ⟨rfl, rfl⟩))
          go_meet
          case rel => exact ⟨by rw [hv.out], rfl⟩
        | true =>
          have t2 := inB_true e2
          have t3 := inB_true e3
          have ar := grid_area t2.1 t2.2 t3.1 t3.2
          have hv0 : Hid (badB size GW GH clen = !decide ((clen : Int) = GW * GH)) := hid (by unfold badB ok3; rw [e1, e2, e3]; rfl)
          by_cases hl : (clen : Int) = GW * GH
          · have hl1 : ((clen : Int) != GW * GH) = false := by simp [hl]
            have hv : Hid (badB size GW GH clen = false) := hid (by rw [hv0.out, decide_eq_true hl]; rfl)
            clear hl hv0
            go_wp2_with (first | (go_at_call 29; (with_reducible refine (rwithin_any _ _ _ _).mono ?_); rintro e w3 ⟨rfl, rfl⟩))
            go_meet
            case rel => exact ⟨by rw [hv.out], rfl⟩
          · have hl1 : ((clen : Int) != GW * GH) = true := by simp [hl]
            have hv : Hid (badB size GW GH clen = true) := hid (by rw [hv0.out, decide_eq_false hl]; rfl)
            clear hl hv0
            go_wp2_with (first | (go_at_call 29; (with_reducible refine (rwithin_any _ _ _ _).mono ?_); rintro e w3 ⟨rfl, rfl⟩))
            go_meet
            case rel => exact ⟨by rw [hv.out], rfl⟩
  case rest =>
    obtain ⟨rfl, rfl⟩ := hcut
    cases eb : badB size GW GH clen with
    | true =>
      have HE : Hid (R = decide (0 < n)) := hid (by
        rw [← HR9.out]; unfold colR
        unfold badB at eb
        cases h : (ok3 size GW GH && decide ((clen : Int) = GW * GH)) with
        | false => rfl
        | true => rw [h] at eb; cases eb)
      have HR0 : Hid (0 < n → true = R) := hid (fun h => by rw [HE.out]; simp [h])
      go_wp2_with fail
      go_loopw [8] (fun s8 wr => ∃ k : Nat, s8 = .int .i64 k ∧ k ≤ n ∧ Hid (k = 0) ∧ Below (w.alloc (.cells #[.int .i64 GW, .int .i64 GH, .slice ca clen ccap] 46)).heap.size (w.alloc (.cells #[.int .i64 GW, .int .i64 GH, .slice ca clen ccap] 46)) wr) (fun s8 _ => n - (intOf s8).toNat)
      case atStart => exact ⟨0, rfl, Nat.zero_le _, hid rfl, Below.refl _ _⟩
      case round =>
        obtain ⟨k, rfl, hk, HK0, hb⟩ := hrel
        have hsr : w.heap.size < wr.heap.size := by have := hb.size; simp at this; omega
        have hg0 : ∀ o, wr.cell? ⟨w.heap.size, o, none⟩ = (w.alloc (.cells #[.int .i64 GW, .int .i64 GH, .slice ca clen ccap] 46)).cell? ⟨w.heap.size, o, none⟩ := fun o => hb.cell (by simp <;> omega)
        by_cases hkT : k < n
        · obtain ⟨b, off, rfl, hbw, hcell⟩ := hm.out (by omega)
          obtain ⟨x0, x1, x2, x3, p1, p2, p3, p4⟩ := hcell k hkT
          have y0 := ((below_box hb).cell (p := ⟨b, off + k * 4, none⟩) hbw).trans x0
          have y1 := ((below_box hb).cell (p := ⟨b, off + k * 4 + 1, none⟩) hbw).trans x1
          have y2 := ((below_box hb).cell (p := ⟨b, off + k * 4 + 2, none⟩) hbw).trans x2
          have y3 := ((below_box hb).cell (p := ⟨b, off + k * 4 + 3, none⟩) hbw).trans x3
          clear hcell x0 x1 x2 x3
          have hkI : (k : Int) < (n : Int) := by omega
          have hkI0 : (0 : Int) ≤ (k : Int) := by omega
          go_wp2_with fail
          go_ret
          exact ⟨ret_bool (HR0.out (by omega)), below_box hb⟩
        · go_wp2_with fail
          go_ret
          exact ⟨ret_bool (by rw [HE.out]; simp; have := HK0.out; omega), below_box hb⟩
    | false =>
      have eb' : ok3 size GW GH = true ∧ (clen : Int) = GW * GH := by
        unfold badB at eb
        simpa using eb
      obtain ⟨eo, hl⟩ := eb'
      obtain ⟨s1, s2, g1, g2, g3, g4⟩ := ok3_true eo
      have ar := grid_area g1 g2 g3 g4
      have HR : Hid (R = hit fr n) := hid (by rw [← HR9.out]; unfold colR; rw [eo, decide_eq_true hl]; rfl)
      clear eo eb
      go_wp2_with fail
      go_loopw [8] (fun s8 wr => ∃ k : Nat, s8 = .int .i64 k ∧ k ≤ n ∧ Hid (hit fr k = false) ∧ Below (w.alloc (.cells #[.int .i64 GW, .int .i64 GH, .slice ca clen ccap] 46)).heap.size (w.alloc (.cells #[.int .i64 GW, .int .i64 GH, .slice ca clen ccap] 46)) wr) (fun s8 _ => n - (intOf s8).toNat)
      case atStart => exact ⟨0, rfl, Nat.zero_le _, hid rfl, Below.refl _ _⟩
      case round =>
        obtain ⟨k, rfl, hk, HH, hb⟩ := hrel
        have hsr : w.heap.size < wr.heap.size := by have := hb.size; simp at this; omega
        have hg0 : ∀ o, wr.cell? ⟨w.heap.size, o, none⟩ = (w.alloc (.cells #[.int .i64 GW, .int .i64 GH, .slice ca clen ccap] 46)).cell? ⟨w.heap.size, o, none⟩ := fun o => hb.cell (by simp <;> omega)
        by_cases hkT : k < n
        · obtain ⟨b, off, rfl, hbw, hcell⟩ := hm.out (by omega)
          obtain ⟨x0, x1, x2, x3, p1, p2, p3, p4⟩ := hcell k hkT
          have y0 := ((below_box hb).cell (p := ⟨b, off + k * 4, none⟩) hbw).trans x0
          have y1 := ((below_box hb).cell (p := ⟨b, off + k * 4 + 1, none⟩) hbw).trans x1
          have y2 := ((below_box hb).cell (p := ⟨b, off + k * 4 + 2, none⟩) hbw).trans x2
          have y3 := ((below_box hb).cell (p := ⟨b, off + k * 4 + 3, none⟩) hbw).trans x3
          clear hcell x0 x1 x2 x3
          have hkI : (k : Int) < (n : Int) := by omega
          have hkI0 : (0 : Int) ≤ (k : Int) := by omega
          have HF1 := hid (fun w => rfloor_any (F k).1 size p1 p2 s1 s2 w)
          have HF2 := hid (fun w => rfloor_any (F k).2.1 size p3 p4 s1 s2 w)
          have HFK : Hid (fr k = freeB GW GH size (F k).1 (F k).2.1 c) := hid (by rw [← HFR0.out])
          go_upto_region 7 with fail
          have ry0 : ∀ (z : Later wr), z.val.cell? ⟨b, off + k * 4, none⟩ = some (.int .i64 (F k).1) := fun z => (z.cell (by omega)).trans y0
          have ry1 : ∀ (z : Later wr), z.val.cell? ⟨b, off + k * 4 + 1, none⟩ = some (.int .i64 (F k).2.1) := fun z => (z.cell (by omega)).trans y1
          have rg : ∀ (z : Later wr) (o : Nat), z.val.cell? ⟨w.heap.size, o, none⟩ = (w.alloc (.cells #[.int .i64 GW, .int .i64 GH, .slice ca clen ccap] 46)).cell? ⟨w.heap.size, o, none⟩ := fun z o => (z.cell (by omega)).trans (hg0 o)
          clear y0 y1 y2 y3
          refine wp_region_later (w0 := wr) (Below.refl _ _) (by kernel_rfl) (by kernel_rfl) ?_
          repeat (go_big_quiet_step ((first | (go_at_call 43; with_reducible exact calls_later_same (HF1.out _)) | (go_at_call 43; with_reducible exact calls_later_same (HF2.out _)))))
          refine wpQuiet_nil ?_
          intro _ hw'
          obtain ⟨y9, hw''⟩ := hw'
          subst hw''
          have hs9 := y9.size
          have HB9 : Below (w.alloc (.cells #[.int .i64 GW, .int .i64 GH, .slice ca clen ccap] 46)).heap.size (w.alloc (.cells #[.int .i64 GW, .int .i64 GH, .slice ca clen ccap] 46)) y9.val := hb.trans (y9.ok.mono hb.size)
          unfold freeB at HFK
          have HIX : Hid (inB ((F k).1 / size) 0 (GW - 1) = true → inB ((F k).2.1 / size) 0 (GH - 1) = true → 0 ≤ (F k).2.1 / size * GW + (F k).1 / size ∧ (F k).2.1 / size * GW + (F k).1 / size < GW * GH) := hid (fun a b => idx_range a b)
          generalize (F k).1 / size = x at *
          generalize (F k).2.1 / size = y at *
          have CX : x < 0 ∨ GW ≤ x ∨ (0 ≤ x ∧ x < GW) := by omega
          have CY : y < 0 ∨ GH ≤ y ∨ (0 ≤ y ∧ y < GH) := by omega
          rcases CX with hx | hx | ⟨hx, hx2⟩
          · have e1 : inB x 0 (GW - 1) = false := by unfold inB; simp; omega
            have ef : Hid (fr k = false) := hid (by rw [HFK.out, e1]; rfl)
            clear HFK HIX
            go_wp2_with fail
            go_ret
            exact ⟨ret_bool (by rw [HR.out, hit_at ef.out n hkT]), below_box HB9⟩
          · have e1 : inB x 0 (GW - 1) = false := by unfold inB; simp; omega
            have ef : Hid (fr k = false) := hid (by rw [HFK.out, e1]; rfl)
            clear HFK HIX
            go_wp2_with fail
            go_ret
            exact ⟨ret_bool (by rw [HR.out, hit_at ef.out n hkT]), below_box HB9⟩
          · have e1 : inB x 0 (GW - 1) = true := inB_mk (by omega) (by omega)
            rcases CY with hy | hy | ⟨hy, hy2⟩
            · have e2 : inB y 0 (GH - 1) = false := by unfold inB; simp; omega
              have ef : Hid (fr k = false) := hid (by rw [HFK.out, e1, e2]; rfl)
              clear HFK HIX
              go_wp2_with fail
              go_ret
              exact ⟨ret_bool (by rw [HR.out, hit_at ef.out n hkT]), below_box HB9⟩
            · have e2 : inB y 0 (GH - 1) = false := by unfold inB; simp; omega
              have ef : Hid (fr k = false) := hid (by rw [HFK.out, e1, e2]; rfl)
              clear HFK HIX
              go_wp2_with fail
              go_ret
              exact ⟨ret_bool (by rw [HR.out, hit_at ef.out n hkT]), below_box HB9⟩
            · have e2 : inB y 0 (GH - 1) = true := inB_mk (by omega) (by omega)
              obtain ⟨i1, i2⟩ := HIX.out e1 e2
              rw [← hl] at i2
              obtain ⟨bc, offc, rfl, hbc, hcc⟩ := hc.out (by omega)
              obtain ⟨xc, xc1, xc2⟩ := hcc (y * GW + x).toNat (by omega)
              have hidx : (((y * GW + x).toNat : Nat) : Int) = y * GW + x := Int.toNat_of_nonneg i1
              have j1 : 0 ≤ y * GW := Int.mul_nonneg (by omega) (by omega)
              have j2 : y * GW ≤ 2304 := by omega
              have zc : y9.val.cell? ⟨bc, offc + (y * GW + x).toNat, none⟩ = some (.int .u8 (c (y * GW + x).toNat)) := ((below_box HB9).cell hbc).trans xc
              have HFK2 : Hid (fr k = decide (c (y * GW + x).toNat < 254)) := hid (by rw [HFK.out, e1, e2]; rfl)
              clear hcc xc e1 e2 HFK HIX hidx hl ar HFR0
              generalize c (y * GW + x).toNat = cv at *
              rcases Int.lt_or_le cv 254 with hcv | hcv
              · have HH2 : Hid (hit fr (k + 1) = false) := hid (by unfold hit; rw [HH.out, HFK2.out]; simp [hcv])
                clear HFK2
                go_wp2_with fail
                go_roundw
                case rel => exact ⟨k + 1, by go_num, by omega, HH2, HB9⟩
                case measure => simp [intOf]; omega
              · have ef : Hid (fr k = false) := hid (by rw [HFK2.out]; simp; omega)
                clear HFK2
                go_wp2_with fail
                go_ret
                exact ⟨ret_bool (by rw [HR.out, hit_at ef.out n hkT]), below_box HB9⟩
        · go_wp2_with fail
          go_ret
          exact ⟨ret_bool (by rw [HR.out, show n = k from by omega]; exact HH.out.symm), below_box hb⟩
theorem rcoll_any (GW GH : Int) (ca : Option Addr) (clen ccap : Nat) (c : Nat → Int) (size : Int) (ma : Option Addr) (n mcap : Nat) (F : Nat → Int × Int × Int × Int) (hn : n ≤ 60) (hcl : clen ≤ 2500) (w : World) (hc : Hid (Costs w ca clen c)) (hm : Hid (Mos w ma n F)) :
    Calls Try.prog 27 #[gv GW GH ca clen ccap, .int .i64 size, .slice ma n mcap] w fun e w' => e = .returned (.bool (colR size GW GH clen n (fun i => freeB GW GH size (F i).1 (F i).2.1 c))) ∧ Below w.heap.size w w' :=
  rcoll_core GW GH ca clen ccap c size ma n mcap F _ _ (hid rfl) (hid rfl) hn hcl w hc hm
end Go.Proofs.Ythfpdlkeagoamaa
