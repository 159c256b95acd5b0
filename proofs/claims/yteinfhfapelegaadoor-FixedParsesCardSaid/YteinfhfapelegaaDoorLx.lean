/- FixedParses: the walk of the law. -/
import Derived.Test.YteinfhfapelegaaDoorXh
import Derived.Test.YteinfhfapelegaaDoorLw
namespace Go.Proofs.YteinfhfapelegaaDoor
open Go.RowKit
set_option linter.unusedVariables false
set_option linter.unusedSimpArgs false
set_option maxHeartbeats 8000000 in
set_option maxRecDepth 100000 in
theorem parses_walk (a : Int) (h0 : -9223372036854775808 ≤ a) (h1 : a ≤ 9223372036854775807) (s : ByteArray) (hs : s.size ≤ 140737488355328) (w : World) (hT : Tens w) : Calls Tryd.prog 3 #[.int .i64 a, .string s] w fun e w' => e = .returned (.bool true) ∧ Below w.heap.size w w' := by
  obtain ⟨l, hl⟩ : ∃ l, Str s l := ⟨s.data.toList, ⟨by simp [bs]⟩⟩
  have hll : l.length ≤ 140737488355328 := by rw [← hl.size]; exact hs
  have HP := hid (fun w hT => parse_any s l hl hll w hT)
  have HR := hid (fun w => rparse_any s l hl hll w)
  clear hs hll hl
  generalize (prs l).1 = pv at *
  generalize (prs l).2 = pe at *
  obtain ⟨FTX, hFTX⟩ : ∃ FTX, FTX = bs (ub (fmtA a)) := ⟨_, rfl⟩
  have hst : Str FTX (ub (fmtA a)) := ⟨hFTX⟩
  have HF : Hid (∀ w, Tens w → Calls Tryd.prog 6 #[.int .i64 a] w fun e w' => e = .returned (.string FTX) ∧ Below w.heap.size w w') := hid (fun w hT => (format_any a h0 h1 w hT).mono fun e w' h => by obtain ⟨s, k1, k2, k3⟩ := h; exact ⟨by rw [k1, k2, hFTX], k3⟩)
  have HG : Hid (∀ w, Calls Tryd.prog 7 #[.int .i64 a] w fun e w' => e = .returned (.string FTX) ∧ w = w') := hid (fun w => (rformat_any a h0 h1 w).mono fun e w' h => by obtain ⟨s, k1, k2, k3⟩ := h; exact ⟨by rw [k1, k2, hFTX], k3⟩)
  have hlen : (ub (fmtA a)).length ≤ 140737488355328 := by
    rw [ub_len]
    unfold fmtA
    have x1 := fmtM_len (-a)
    have x2 := fmtM_len a
    split
    · simp only [List.length_cons]; omega
    · omega
  have HB := hid (fun w hT => parse_any FTX (ub (fmtA a)) hst hlen w hT)
  have hself : Below w.heap.size w w := Below.refl _ _
  by_cases hr : -140737488355328 ≤ a ∧ a ≤ 140737488355328
  · obtain ⟨r1, r2⟩ := hr
    obtain ⟨b1, b2, b3⟩ := back a r1 r2
    rw [b1] at HB
    clear hFTX hst hlen b1
    generalize (prs (ub (fmtA a))).1 = V at *
    go_enter Tryd.func3, Tryd.ntmps3
    go_wp2_with (first
    | (go_at_call 4; (with_reducible refine (HP.out _ (by assumption)).mono ?_); rintro e w1 ⟨rfl, hb1⟩; have hc1 := below_then (by assumption) hb1; have ht1 := Tens.below (by assumption) hb1; clear hb1)
    | (go_at_call 4; (with_reducible refine (HB.out _ (by assumption)).mono ?_); rintro e w1 ⟨rfl, hb1⟩; have hc1 := below_then (by assumption) hb1; have ht1 := Tens.below (by assumption) hb1; clear hb1)
    | (go_at_call 5; (with_reducible refine (HR.out _).mono ?_); rintro e w1 ⟨rfl, rfl⟩)
    | (go_at_call 6; (with_reducible refine (HF.out _ (by assumption)).mono ?_); rintro e w1 ⟨rfl, hb1⟩; have hc1 := below_then (by assumption) hb1; have ht1 := Tens.below (by assumption) hb1; clear hb1)
    | (go_at_call 7; (with_reducible refine (HG.out _).mono ?_); rintro e w1 ⟨rfl, rfl⟩)
    | (go_at_call 8; (with_reducible refine (awake_any _).mono ?_); rintro e w1 ⟨rfl, hb1⟩; have hc1 := below_then (by assumption) hb1; clear hb1))
    go_ret
    exact ⟨rfl, by assumption⟩
  · clear hFTX hst hlen
    generalize (prs (ub (fmtA a))).1 = V at *
    generalize (prs (ub (fmtA a))).2 = E at *
    go_enter Tryd.func3, Tryd.ntmps3
    rcases Int.lt_or_le a (-140737488355328) with r1 | r1
    · go_wp2_with (first
    | (go_at_call 4; (with_reducible refine (HP.out _ (by assumption)).mono ?_); rintro e w1 ⟨rfl, hb1⟩; have hc1 := below_then (by assumption) hb1; have ht1 := Tens.below (by assumption) hb1; clear hb1)
    | (go_at_call 4; (with_reducible refine (HB.out _ (by assumption)).mono ?_); rintro e w1 ⟨rfl, hb1⟩; have hc1 := below_then (by assumption) hb1; have ht1 := Tens.below (by assumption) hb1; clear hb1)
    | (go_at_call 5; (with_reducible refine (HR.out _).mono ?_); rintro e w1 ⟨rfl, rfl⟩)
    | (go_at_call 6; (with_reducible refine (HF.out _ (by assumption)).mono ?_); rintro e w1 ⟨rfl, hb1⟩; have hc1 := below_then (by assumption) hb1; have ht1 := Tens.below (by assumption) hb1; clear hb1)
    | (go_at_call 7; (with_reducible refine (HG.out _).mono ?_); rintro e w1 ⟨rfl, rfl⟩)
    | (go_at_call 8; (with_reducible refine (awake_any _).mono ?_); rintro e w1 ⟨rfl, hb1⟩; have hc1 := below_then (by assumption) hb1; clear hb1))
      go_ret
      exact ⟨rfl, by assumption⟩
    · have r2 : 140737488355328 < a := by omega
      clear hr
      go_wp2_with (first
    | (go_at_call 4; (with_reducible refine (HP.out _ (by assumption)).mono ?_); rintro e w1 ⟨rfl, hb1⟩; have hc1 := below_then (by assumption) hb1; have ht1 := Tens.below (by assumption) hb1; clear hb1)
    | (go_at_call 4; (with_reducible refine (HB.out _ (by assumption)).mono ?_); rintro e w1 ⟨rfl, hb1⟩; have hc1 := below_then (by assumption) hb1; have ht1 := Tens.below (by assumption) hb1; clear hb1)
    | (go_at_call 5; (with_reducible refine (HR.out _).mono ?_); rintro e w1 ⟨rfl, rfl⟩)
    | (go_at_call 6; (with_reducible refine (HF.out _ (by assumption)).mono ?_); rintro e w1 ⟨rfl, hb1⟩; have hc1 := below_then (by assumption) hb1; have ht1 := Tens.below (by assumption) hb1; clear hb1)
    | (go_at_call 7; (with_reducible refine (HG.out _).mono ?_); rintro e w1 ⟨rfl, rfl⟩)
    | (go_at_call 8; (with_reducible refine (awake_any _).mono ?_); rintro e w1 ⟨rfl, hb1⟩; have hc1 := below_then (by assumption) hb1; clear hb1))
      go_ret
      exact ⟨rfl, by assumption⟩
end Go.Proofs.YteinfhfapelegaaDoor
