/- Walks: the reference's Parse. -/
import Derived.Test.YteinfhfapelegaaDoorXf
import Derived.Deep.CutBlock
namespace Go.Proofs.YteinfhfapelegaaDoor
open Go.RowKit
set_option linter.unusedVariables false
set_option linter.unusedSimpArgs false
theorem rnd (F T : Int) (hT : 0 < T) (h2 : T % 2 = 0) : (F + T / 2) / T = F / T + (if T ≤ 2 * (F % T) then 1 else 0) := by
  have e := Int.emod_add_mul_ediv F T
  have r0 := Int.emod_nonneg F (Int.ne_of_gt hT)
  have r1 := Int.emod_lt_of_pos F hT
  generalize F % T = r at *
  generalize F / T = q at *
  have e2 : F + T / 2 = (r + T / 2) + T * q := by omega
  rw [e2, Int.add_mul_ediv_left _ _ (Int.ne_of_gt hT)]
  split
  · have e3 : r + T / 2 = (r + T / 2 - T) + T * 1 := by omega
    rw [e3, Int.add_mul_ediv_left _ _ (Int.ne_of_gt hT), Int.ediv_eq_zero_of_lt (by omega) (by omega)]
    omega
  · rw [Int.ediv_eq_zero_of_lt (by omega) (by omega)]
    omega
theorem even10 (m : Nat) (h : 1 ≤ m) : (10 : Int) ^ m % 2 = 0 := by
  obtain ⟨k, rfl⟩ := Nat.exists_eq_add_of_le h
  rw [Nat.add_comm, Int.pow_succ]
  omega
set_option maxHeartbeats 16000000 in
set_option maxRecDepth 100000 in
theorem rparse_any (s : ByteArray) (l : List UInt8) (hs : Str s l) (hl : l.length ≤ 140737488355328) (w : World) : Calls Tryd.prog 5 #[.string s] w fun e w' => e = .returned (.tuple #[.int .i64 (prs l).1, .int .i64 (prs l).2]) ∧ w = w' := by
  cases l with
  | nil =>
    have htl : s.toList = [] := hs.list
    go_enter Tryd.func5, Tryd.ntmps5
    go_wp2_with fail
    refine bodyPost_ret (v := .tuple #[.int .i64 0, .int .i64 1]) (by simp [results, Tryd.results5, go_sem]) rfl ?_
    exact ⟨rfl, rfl⟩
  | cons b0 l0 =>
    have htl : s.toList = b0 :: l0 := hs.list
    have hlte : (b0 :: l0).isEmpty = false := rfl
    have hsz := hs.size
    have h0s : 0 < s.size := by rw [hsz]; simp
    obtain ⟨B0, hB0⟩ : ∃ B0, B0 = b0.toNat := ⟨_, rfl⟩
    have hg0 : (s[0]'h0s).toNat = B0 := by rw [hs.get 0 (by simp) h0s, hB0]; rfl
    have HSTR := hid hs
    have HG := hid (fun i h h' => hs.get i h h')
    by_cases hneg : B0 = 45
    · have HRES : Hid (prs (b0 :: l0) = prsT true l0) := hid (by show (if _ then _ else _) = _; rw [if_pos (by rw [← hB0]; exact hneg)])
      have hdr : (b0 :: l0).drop 1 = l0 := rfl
      subst hneg
      clear hB0
      generalize hlt : b0 :: l0 = lt at *
      clear hlt
      have htz : l0.length + 1 = lt.length := by rw [← hdr, List.length_drop]; have := hs.size; omega
      obtain ⟨L, hL⟩ : ∃ L, L = lt.length := ⟨_, rfl⟩
      have hszL : s.size = L := by rw [hsz, hL]
      have hLI : (L : Int) ≤ 140737488355328 := by omega
      have hKl := runN_le l0
      have HR1 : Hid (∀ w, Calls Tryd.prog 11 #[.string s, .int .i64 1] w fun e w' => e = .returned (.int .i64 (runN l0)) ∧ w = w') := hid (fun w => by have := run_s s lt 1 hsz HG hl (by omega) w; rw [hdr] at this; exact this)
      have HKD := hid (take_digits l0)
      generalize hK : runN l0 = K at *
      have HK := hid hK
      have HTZ := hid htz
      have HL := hid hL
      have hKB : K + 1 ≤ L := by omega
      clear hK hs hsz htz hL
      have hKI0 : (0 : Int) ≤ (K : Int) := by omega
      have hKIL : (K : Int) + 1 ≤ (L : Int) := by omega
      go_enter Tryd.func5, Tryd.ntmps5
      by_cases hb1 : K < 1
      · have hb1I : (K : Int) < 1 := by omega
        have hbad : prsT true l0 = (0, 2) := prsT_bad (by rw [HK.out]; exact Or.inl hb1)
        go_wp2_with (first | (go_at_call 11; (with_reducible refine (HR1.out _).mono ?_); rintro e w2 ⟨rfl, rfl⟩))
        refine bodyPost_ret (v := .tuple #[.int .i64 0, .int .i64 2]) (by simp [results, Tryd.results5, go_sem]) rfl ?_
        exact ⟨by rw [HRES.out, hbad], rfl⟩
      · by_cases hb2 : 10 < K
        · have hb1I : ¬ ((K : Int) < 1) := by omega
          have hb2I : (10 : Int) < (K : Int) := by omega
          have hbad : prsT true l0 = (0, 2) := prsT_bad (by rw [HK.out]; exact Or.inr (Or.inl hb2))
          go_wp2_with (first | (go_at_call 11; (with_reducible refine (HR1.out _).mono ?_); rintro e w2 ⟨rfl, rfl⟩))
          refine bodyPost_ret (v := .tuple #[.int .i64 0, .int .i64 2]) (by simp [results, Tryd.results5, go_sem]) rfl ?_
          exact ⟨by rw [HRES.out, hbad], rfl⟩
        · have hb1I : ¬ ((K : Int) < 1) := by omega
          have hb2I : ¬ ((10 : Int) < (K : Int)) := by omega
          have htl0 : 0 < l0.length := by omega
          have hks : 1 < s.size := by omega
          have hAl : 1 < lt.length := by have := HL.out; omega
          obtain ⟨C0, hC0⟩ : ∃ C0, C0 = (l0[0]'htl0).toNat := ⟨_, rfl⟩
          have hg1 : (s[1]'hks).toNat = C0 := by rw [HG.out 1 hAl hks, hC0]; try (congr 1 <;> (try (simp only [← hdr])) <;> (try simp))
          skip
          have hhd : l0.head?.map UInt8.toNat = some C0 := by rw [hC0, List.head?_eq_getElem?, List.getElem?_eq_getElem htl0]; rfl
          have HHD := hid hhd
          clear hC0 hhd
          have hszI : (1 : Int) < (L : Int) := by omega
          by_cases hb3 : 1 < K ∧ C0 = 48
          · obtain ⟨hb3, hb4⟩ := hb3
            subst hb4
            have hb3I : (1 : Int) < (K : Int) := by omega
            have hbad : prsT true l0 = (0, 2) := prsT_bad (by rw [HK.out]; exact Or.inr (Or.inr ⟨hb3, HHD.out⟩))
            go_wp2_with (first | (go_at_call 11; (with_reducible refine (HR1.out _).mono ?_); rintro e w2 ⟨rfl, rfl⟩))
            refine bodyPost_ret (v := .tuple #[.int .i64 0, .int .i64 2]) (by simp [results, Tryd.results5, go_sem]) rfl ?_
            exact ⟨by rw [HRES.out, hbad], rfl⟩
          · have hok : Hid (¬ (runN l0 < 1 ∨ 10 < runN l0 ∨ (1 < runN l0 ∧ l0.head?.map UInt8.toNat = some 48))) := hid (by
              rw [HK.out, HHD.out]
              rintro (h | h | ⟨h, h'⟩)
              · omega
              · omega
              · injection h' with h'; exact hb3 ⟨h, h'⟩)
            have hV := valF_range (l0.take K) 0 1 (by omega) (by omega) HKD.out
            have hVp := p10' (l0.take K).length 10 (by rw [List.length_take]; omega) 10000000000 (by decide)
            obtain ⟨Q, hQ⟩ : ∃ Q, Q = 1 + K := ⟨_, rfl⟩
            have hQI : (1 : Int) + (K : Int) = (Q : Int) := by omega
            clear hQ
            obtain ⟨s1, hs1⟩ : ∃ s1, s1 = s.extract 1 Q := ⟨_, rfl⟩
            have hst1 : Str s1 (l0.take K) := by have := HSTR.out.ext 1 Q; rw [← hs1, hdr, show Q - 1 = K from by omega] at this; exact this
            have hsl1 : ∀ w, (Instr.slice 9 (.string s) (some (.int .i64 1)) (some (.int .i64 (Q : Int))) none).run Tryd.prog w = .ok (.string s1) w := fun w => by
              rw [run_slice_string (P := Tryd.prog) w 9 _ _ _ _ _ Tryd.underlying9 (by omega) (by omega) (by omega), hs1]
              rfl
            have HN1 := hid (fun w => rnumber_s s1 (l0.take K) hst1.size (hid (fun i h h' => hst1.get i h h')) (by rw [List.length_take]; omega) HKD.out w)
            clear hs1 hst1
            generalize hVe : valF 0 (l0.take K) = V at *
            have HV := hid hVe
            obtain ⟨v1, v2⟩ := hV
            have v3 : V < 10000000000 := by omega
            clear hVe hVp v2
            go_upto_region 7 with (first | (go_at_call 11; (with_reducible refine (HR1.out _).mono ?_); rintro e w2 ⟨rfl, rfl⟩))
            go_cut [35] (fun s wq => s = .bool false ∧ w = wq)
            case first =>
              by_cases hk1 : 1 < K
              · have hk1I : (1 : Int) < (K : Int) := by omega
                have hc48 : ¬ (C0 = 48) := fun e => hb3 ⟨hk1, e⟩
                have hc48K : ((C0 : Int) == 48) = false := by simp; omega
                go_wp2_with fail
                go_meet
                all_goals exact ⟨by congr 1; simp; omega, rfl⟩
              · have hk1I : ¬ ((1 : Int) < (K : Int)) := by omega
                go_wp2_with fail
                go_meet
                all_goals exact ⟨by congr 1; simp; omega, rfl⟩
            case rest =>
              obtain ⟨rfl, rfl⟩ := hcut
              clear hg1 hb3 hb1 hb2 hb1I hb2I
              have hQL : Q ≤ L := by omega
              have hQLI : (Q : Int) ≤ (L : Int) := by omega
              generalize hN0 : V * 65536 = N0 at *
              have HN0 := hid hN0
              have n1 : 0 ≤ N0 := by omega
              have n2 : N0 < 655360000000000 := by omega
              have hlT : l0.length + 1 = L := by rw [HTZ.out, HL.out]
              cases hr : l0.drop K with
              | nil =>
                have hQe : Q = L := by have := congrArg List.length hr; rw [List.length_drop, List.length_nil] at this; omega
                have hQeI : ¬ ((Q : Int) < (L : Int)) := by omega
                rcases Int.lt_or_le 140737488355328 N0 with hf | hf
                · have hfin : Hid (prsT true l0 = (0, 4)) := hid (by rw [prsT_end hok.out (by rw [HK.out, hr]), HK.out, HV.out, HN0.out]; unfold fin; rw [if_pos hf])
                  clear hQe hlT
                  go_wp2_with (go_at_call 12; (with_reducible refine (HN1.out _).mono ?_); rintro e w3 ⟨rfl, rfl⟩)
                  refine bodyPost_ret (v := .tuple #[.int .i64 0, .int .i64 4]) (by simp [results, Tryd.results5, go_sem]) rfl ?_
                  exact ⟨by rw [HRES.out, hfin.out], rfl⟩
                · have hf' : ¬ (140737488355328 < N0) := by omega
                  have hfin : Hid (prsT true l0 = (if true then -N0 else N0, 0)) := hid (by rw [prsT_end hok.out (by rw [HK.out, hr]), HK.out, HV.out, HN0.out]; unfold fin; rw [if_neg hf'])
                  have HS := hid (fun w => signed_any true N0 (by omega) hf w)
                  obtain ⟨SV, hSV⟩ : ∃ SV, SV = (if true then -N0 else N0) := ⟨_, rfl⟩
                  rw [← hSV] at HS hfin
                  clear hSV hQe hlT
                  go_wp2_with (first | (go_at_call 12; (with_reducible refine (HN1.out _).mono ?_); rintro e w3 ⟨rfl, rfl⟩) | (go_at_call 13; (with_reducible refine (HS.out _).mono ?_); rintro e w5 ⟨rfl, rfl⟩))
                  refine bodyPost_ret (v := .tuple #[.int .i64 SV, .int .i64 0]) (by simp [results, Tryd.results5, go_sem]) rfl ?_
                  exact ⟨by rw [HRES.out, hfin.out], rfl⟩
              | cons c r =>
                have hrlen : Q + 1 + r.length = L := by have := congrArg List.length hr; rw [List.length_drop] at this; simp at this; omega
                have hQltI : (Q : Int) < (L : Int) := by omega
                have hQs : Q < s.size := by omega
                obtain ⟨Q1, hQ1⟩ : ∃ Q1, Q1 = Q + 1 := ⟨_, rfl⟩
                have hQ1I : (Q : Int) + 1 = (Q1 : Int) := by omega
                have hQ1L : (Q1 : Int) ≤ (L : Int) := by omega
                have hdQ : lt.drop Q = c :: r := by rw [← hr, ← hdr, List.drop_drop]; try (congr 1 <;> omega)
                have hdQ1 : lt.drop Q1 = r := by rw [hQ1, ← List.drop_drop, hdQ]; rfl
                obtain ⟨C, hC⟩ : ∃ C, C = c.toNat := ⟨_, rfl⟩
                have hg2 : (s[Q]'hQs).toNat = C := by
                  have hq : Q < lt.length := by have := HL.out; omega
                  rw [HG.out Q hq hQs, hC]
                  have e : (lt.drop Q)[0]'(by rw [hdQ]; simp) = lt[Q]'hq := by rw [List.getElem_drop]; simp
                  rw [← e]
                  simp only [hdQ]
                  rfl
                have HR2 := hid (fun w => run_s s lt Q1 HSTR.out.size HG hl (by have := HL.out; omega) w)
                rw [hdQ1] at HR2
                have hml := runN_le r
                have HRD := hid (take_digits r)
                generalize hm : runN r = m at *
                have HM := hid hm
                have HHDR := hid hdr
                have HDQ1 := hid hdQ1
                clear hm hdQ hdQ1 hdr
                have hmI0 : (0 : Int) ≤ (m : Int) := by omega
                have hmI1 : (m : Int) ≤ 140737488355328 := by omega
                have hQmI : (Q1 : Int) + (m : Int) ≤ (L : Int) := by omega
                by_cases hok2 : C ≠ 46 ∨ m < 1 ∨ 5 < m ∨ m ≠ r.length
                · have hbad : prsT true l0 = (0, 2) := prsT_bad2 hok.out (by rw [HK.out, hr]) (by rw [HM.out, ← hC]; exact hok2)
                  clear hC
                  by_cases g1 : C = 46
                  · subst g1
                    by_cases g2 : m < 1
                    · have g2I : (m : Int) < 1 := by omega
                      clear hQ1 hlT hok2
                      go_wp2_with (first | (go_at_call 12; (with_reducible refine (HN1.out _).mono ?_); rintro e w3 ⟨rfl, rfl⟩) | (go_at_call 11; (with_reducible refine (HR2.out _).mono ?_); rintro e w2 ⟨rfl, rfl⟩))
                      refine bodyPost_ret (v := .tuple #[.int .i64 0, .int .i64 2]) (by simp [results, Tryd.results5, go_sem]) rfl ?_
                      exact ⟨by rw [HRES.out, hbad], rfl⟩
                    · have g2I : ¬ ((m : Int) < 1) := by omega
                      by_cases g3 : 5 < m
                      · have g3I : (5 : Int) < (m : Int) := by omega
                        clear hQ1 hlT hok2
                        go_wp2_with (first | (go_at_call 12; (with_reducible refine (HN1.out _).mono ?_); rintro e w3 ⟨rfl, rfl⟩) | (go_at_call 11; (with_reducible refine (HR2.out _).mono ?_); rintro e w2 ⟨rfl, rfl⟩))
                        refine bodyPost_ret (v := .tuple #[.int .i64 0, .int .i64 2]) (by simp [results, Tryd.results5, go_sem]) rfl ?_
                        exact ⟨by rw [HRES.out, hbad], rfl⟩
                      · have g3I : ¬ ((5 : Int) < (m : Int)) := by omega
                        have g4 : ((Q1 : Int) + (m : Int) != (L : Int)) = true := by simp; omega
                        clear hQ1 hlT hok2
                        go_wp2_with (first | (go_at_call 12; (with_reducible refine (HN1.out _).mono ?_); rintro e w3 ⟨rfl, rfl⟩) | (go_at_call 11; (with_reducible refine (HR2.out _).mono ?_); rintro e w2 ⟨rfl, rfl⟩))
                        refine bodyPost_ret (v := .tuple #[.int .i64 0, .int .i64 2]) (by simp [results, Tryd.results5, go_sem]) rfl ?_
                        exact ⟨by rw [HRES.out, hbad], rfl⟩
                  · have g1K : ((C : Int) != 46) = true := by simp; omega
                    clear hQ1 hlT hok2
                    go_wp2_with (first | (go_at_call 12; (with_reducible refine (HN1.out _).mono ?_); rintro e w3 ⟨rfl, rfl⟩) | (go_at_call 11; (with_reducible refine (HR2.out _).mono ?_); rintro e w2 ⟨rfl, rfl⟩))
                    refine bodyPost_ret (v := .tuple #[.int .i64 0, .int .i64 2]) (by simp [results, Tryd.results5, go_sem]) rfl ?_
                    exact ⟨by rw [HRES.out, hbad], rfl⟩
                · have g1 : C = 46 := by omega
                  have g2 : 1 ≤ m := by omega
                  have g3 : m ≤ 5 := by omega
                  have g4 : m = r.length := by omega
                  have hok2' : Hid (¬ (c.toNat ≠ 46 ∨ runN r < 1 ∨ 5 < runN r ∨ runN r ≠ r.length)) := hid (by rw [HM.out, ← hC]; exact hok2)
                  clear hok2
                  have hrr : r.take m = r := by rw [g4]; exact List.take_of_length_le (Nat.le_refl _)
                  rw [hrr] at HRD
                  obtain ⟨s3, hs3⟩ : ∃ s3, s3 = s.extract Q1 L := ⟨_, rfl⟩
                  have hst3 : Str s3 r := by have := HSTR.out.from Q1; rw [← HL.out, ← hs3, HDQ1.out] at this; exact this
                  have hs3' := hs3.symm
                  have HN3 := hid (fun w => rnumber_s s3 r hst3.size (hid (fun i h h' => hst3.get i h h')) (by omega) HRD.out w)
                  clear hs3 hst3
                  have hP := valF_range r 0 1 (by omega) (by omega) HRD.out
                  have hPp := p10' r.length 5 (by omega) 100000 (by decide)
                  obtain ⟨T, hT⟩ : ∃ T, T = (10 : Int) ^ m := ⟨_, rfl⟩
                  have t1 := p10' 1 m g2 T hT.symm
                  have t2 := p10' m 5 g3 100000 (by decide)
                  have te := even10 m g2
                  have HT' := hid hT
                  rw [← hT] at t2 te
                  rw [← g4, ← hT] at hPp
                  rw [← g4, ← hT] at hP
                  have t3 : (10 : Int) ≤ T := by simpa using t1
                  clear t1
                  clear hT
                  generalize hPe : valF 0 r = P at *
                  have HP := hid hPe
                  obtain ⟨p1, p2⟩ := hP
                  have p3 : P < 100000 := by omega
                  clear hPe p2 hPp hrr
                  subst g1
                  have g2I : ¬ ((m : Int) < 1) := by omega
                  have g3I : ¬ ((5 : Int) < (m : Int)) := by omega
                  have g4' : ((Q1 : Int) + (m : Int) != (L : Int)) = false := by simp; omega
                  have g5 : (Q1 : Int) + (m : Int) = (L : Int) := by omega
                  clear g4 hC hQ1 hlT hrlen
                  have HG5 := hid g5
                  generalize hPF : P * 65536 = PF at *
                  have p4 : 0 ≤ PF := by omega
                  have p5 : PF < 6553600000 := by omega
                  have HPF := hid hPF
                  go_upto_block 0 with (first | (go_at_call 12; (with_reducible refine (HN1.out _).mono ?_); rintro e w3 ⟨rfl, rfl⟩) | (go_at_call 11; (with_reducible refine (HR2.out _).mono ?_); rintro e w2 ⟨rfl, rfl⟩))
                  go_cut [9] (fun s9 wq => s9 = .int .u64 T ∧ w = wq)
                  case first =>
                    go_upto_region 17 with fail
                    go_loopw [9, 10] (fun s9 s10 wr => ∃ i : Nat, s9 = .int .u64 ((10 : Int) ^ i) ∧ s10 = .int .i64 i ∧ i ≤ m ∧ w = wr) (fun _ s10 _ => m - (intOf s10).toNat)
                    case atStart => exact ⟨0, by simp, rfl, Nat.zero_le _, rfl⟩
                    case round =>
                      obtain ⟨i, rfl, rfl, hi, rfl⟩ := hrel
                      have hi0 : (0 : Int) ≤ (i : Int) := by omega
                      have hi5 : (i : Int) ≤ 5 := by omega
                      by_cases him : i < m
                      · have himI : (i : Int) < (m : Int) := by omega
                        have hU := p10' i 5 (by omega) 100000 (by decide)
                        have hU0 : 0 ≤ (10 : Int) ^ i := Int.pow_nonneg (by omega)
                        have hUs : (10 : Int) * 10 ^ i = 10 ^ (i + 1) := by rw [Int.pow_succ, Int.mul_comm]
                        generalize (10 : Int) ^ i = U at *
                        have HUS := hid hUs
                        clear hUs
                        go_wp2_with fail
                        go_roundw
                        case rel => exact ⟨i + 1, by rw [← HUS.out], by go_num, by omega, trivial⟩
                        case measure => simp [intOf]; omega
                      · have hime : i = m := by omega
                        have himI : ¬ ((i : Int) < (m : Int)) := by omega
                        have hTi : (10 : Int) ^ i = T := by rw [HT'.out, hime]
                        clear hime
                        go_wp2_with fail
                        go_meet
                        all_goals (first | exact ⟨trivial, trivial⟩ | exact ⟨by rw [hTi], rfl⟩ | exact ⟨rfl, rfl⟩ | trivial)
                  case rest =>
                    obtain ⟨rfl, rfl⟩ := hcut
                    have u1 : 0 ≤ PF / T := Int.ediv_nonneg (by omega) (by omega)
                    have u2 : PF / T ≤ PF := Int.ediv_le_self _ (by omega)
                    have u2' : PF / T ≤ 6553600000 := by omega
                    have u3 : ¬ (T = 0) := by omega
                    have u4 : (T == 0) = false := by simp; omega
                    have r0 := Int.emod_nonneg PF u3
                    have r1 := Int.emod_lt_of_pos PF (show 0 < T by omega)
                    have hrnd := rnd PF T (by omega) te
                    generalize hF : (PF + T / 2) / T = F at *
                    have HF := hid hF
                    have HRND := hid hrnd
                    have f0 : 0 ≤ F := by rw [hrnd]; split <;> omega
                    have f1 : F ≤ 6553600001 := by rw [hrnd]; split <;> omega
                    clear hF u2 hrnd te
                    go_upto_if 99 with (go_at_call 12; (with_reducible refine (HN3.out _).mono ?_); rintro e w4 ⟨rfl, rfl⟩)
                    go_cut [6] (fun s6 wq => s6 = .int .u64 (N0 + F) ∧ w = wq)
                    case first =>
                      by_cases hh : T ≤ 2 * (PF % T)
                      · have hF2 : PF / T + 1 = F := by rw [HRND.out, if_pos hh]
                        have hF3 : N0 + PF / T + 1 = N0 + F := by omega
                        clear hF2
                        go_wp2_with fail
                        go_meet
                        all_goals (first | exact ⟨trivial, trivial⟩ | exact ⟨rfl, rfl⟩ | trivial | exact ⟨by congr 1, rfl⟩)
                      · have hh' : 2 * (PF % T) < T := by omega
                        have hF2 : PF / T = F := by rw [HRND.out, if_neg hh, Int.add_zero]
                        go_wp2_with fail
                        go_meet
                        all_goals (first | exact ⟨trivial, trivial⟩ | exact ⟨rfl, rfl⟩ | trivial | exact ⟨by rw [hF2], rfl⟩)
                    case rest =>
                      obtain ⟨rfl, rfl⟩ := hcut
                      rcases Int.lt_or_le 140737488355328 (N0 + F) with hf | hf
                      · have hfin : Hid (prsT true l0 = (0, 4)) := hid (by rw [prsT_part hok.out (by rw [HK.out, hr]) hok2'.out, HK.out, HV.out, HN0.out, HM.out, HP.out, ← HT'.out, HPF.out, HF.out]; unfold fin; rw [if_pos hf])
                        go_wp2_with fail
                        refine bodyPost_ret (v := .tuple #[.int .i64 0, .int .i64 4]) (by simp [results, Tryd.results5, go_sem]) rfl ?_
                        exact ⟨by rw [HRES.out, hfin.out], rfl⟩
                      · have hf' : ¬ (140737488355328 < N0 + F) := by omega
                        have hfin : Hid (prsT true l0 = (if true then -(N0 + F) else N0 + F, 0)) := hid (by rw [prsT_part hok.out (by rw [HK.out, hr]) hok2'.out, HK.out, HV.out, HN0.out, HM.out, HP.out, ← HT'.out, HPF.out, HF.out]; unfold fin; rw [if_neg hf'])
                        have HS := hid (fun w => signed_any true (N0 + F) (by omega) hf w)
                        obtain ⟨SV, hSV⟩ : ∃ SV, SV = (if true then -(N0 + F) else N0 + F) := ⟨_, rfl⟩
                        rw [← hSV] at HS hfin
                        clear hSV
                        go_wp2_with (first | (go_at_call 13; (with_reducible refine (HS.out _).mono ?_); rintro e w5 ⟨rfl, rfl⟩))
                        refine bodyPost_ret (v := .tuple #[.int .i64 SV, .int .i64 0]) (by simp [results, Tryd.results5, go_sem]) rfl ?_
                        exact ⟨by rw [HRES.out, hfin.out], rfl⟩
    · have HRES : Hid (prs (b0 :: l0) = prsT false (b0 :: l0)) := hid (by show (if _ then _ else _) = _; rw [if_neg (by rw [← hB0]; exact hneg)])
      have hnegK : ((B0 : Int) == 45) = false := by simp; omega
      clear hB0
      generalize hlt : b0 :: l0 = lt at *
      clear hlt
      have hdr : lt.drop 0 = lt := rfl
      have htz : lt.length + 0 = lt.length := by omega
      obtain ⟨L, hL⟩ : ∃ L, L = lt.length := ⟨_, rfl⟩
      have hszL : s.size = L := by rw [hsz, hL]
      have hLI : (L : Int) ≤ 140737488355328 := by omega
      have hKl := runN_le lt
      have HR1 : Hid (∀ w, Calls Tryd.prog 11 #[.string s, .int .i64 0] w fun e w' => e = .returned (.int .i64 (runN lt)) ∧ w = w') := hid (fun w => by have := run_s s lt 0 hsz HG hl (by omega) w; rw [hdr] at this; exact this)
      have HKD := hid (take_digits lt)
      generalize hK : runN lt = K at *
      have HK := hid hK
      have HTZ := hid htz
      have HL := hid hL
      have hKB : K + 0 ≤ L := by omega
      clear hK hs hsz htz hL
      have hKI0 : (0 : Int) ≤ (K : Int) := by omega
      have hKIL : (K : Int) + 0 ≤ (L : Int) := by omega
      go_enter Tryd.func5, Tryd.ntmps5
      by_cases hb1 : K < 1
      · have hb1I : (K : Int) < 1 := by omega
        have hbad : prsT false lt = (0, 2) := prsT_bad (by rw [HK.out]; exact Or.inl hb1)
        go_wp2_with (first | (go_at_call 11; (with_reducible refine (HR1.out _).mono ?_); rintro e w2 ⟨rfl, rfl⟩))
        refine bodyPost_ret (v := .tuple #[.int .i64 0, .int .i64 2]) (by simp [results, Tryd.results5, go_sem]) rfl ?_
        exact ⟨by rw [HRES.out, hbad], rfl⟩
      · by_cases hb2 : 10 < K
        · have hb1I : ¬ ((K : Int) < 1) := by omega
          have hb2I : (10 : Int) < (K : Int) := by omega
          have hbad : prsT false lt = (0, 2) := prsT_bad (by rw [HK.out]; exact Or.inr (Or.inl hb2))
          go_wp2_with (first | (go_at_call 11; (with_reducible refine (HR1.out _).mono ?_); rintro e w2 ⟨rfl, rfl⟩))
          refine bodyPost_ret (v := .tuple #[.int .i64 0, .int .i64 2]) (by simp [results, Tryd.results5, go_sem]) rfl ?_
          exact ⟨by rw [HRES.out, hbad], rfl⟩
        · have hb1I : ¬ ((K : Int) < 1) := by omega
          have hb2I : ¬ ((10 : Int) < (K : Int)) := by omega
          have htl0 : 0 < lt.length := by omega
          have hks : 0 < s.size := by omega
          have hAl : 0 < lt.length := by have := HL.out; omega
          obtain ⟨C0, hC0⟩ : ∃ C0, C0 = (lt[0]'htl0).toNat := ⟨_, rfl⟩
          have hg1 : (s[0]'hks).toNat = C0 := by rw [HG.out 0 hAl hks, hC0]; try (congr 1 <;> (try (simp only [← hdr])) <;> (try simp))
          obtain rfl : C0 = B0 := hg1.symm.trans hg0
          have hhd : lt.head?.map UInt8.toNat = some C0 := by rw [hC0, List.head?_eq_getElem?, List.getElem?_eq_getElem htl0]; rfl
          have HHD := hid hhd
          clear hC0 hhd
          have hszI : (0 : Int) < (L : Int) := by omega
          by_cases hb3 : 1 < K ∧ C0 = 48
          · obtain ⟨hb3, hb4⟩ := hb3
            subst hb4
            have hb3I : (1 : Int) < (K : Int) := by omega
            have hbad : prsT false lt = (0, 2) := prsT_bad (by rw [HK.out]; exact Or.inr (Or.inr ⟨hb3, HHD.out⟩))
            go_wp2_with (first | (go_at_call 11; (with_reducible refine (HR1.out _).mono ?_); rintro e w2 ⟨rfl, rfl⟩))
            refine bodyPost_ret (v := .tuple #[.int .i64 0, .int .i64 2]) (by simp [results, Tryd.results5, go_sem]) rfl ?_
            exact ⟨by rw [HRES.out, hbad], rfl⟩
          · have hok : Hid (¬ (runN lt < 1 ∨ 10 < runN lt ∨ (1 < runN lt ∧ lt.head?.map UInt8.toNat = some 48))) := hid (by
              rw [HK.out, HHD.out]
              rintro (h | h | ⟨h, h'⟩)
              · omega
              · omega
              · injection h' with h'; exact hb3 ⟨h, h'⟩)
            have hV := valF_range (lt.take K) 0 1 (by omega) (by omega) HKD.out
            have hVp := p10' (lt.take K).length 10 (by rw [List.length_take]; omega) 10000000000 (by decide)
            have hQ : K = K := rfl
            obtain ⟨s1, hs1⟩ : ∃ s1, s1 = s.extract 0 K := ⟨_, rfl⟩
            have hst1 : Str s1 (lt.take K) := by have := HSTR.out.ext 0 K; rw [← hs1, hdr, show K - 0 = K from by omega] at this; exact this
            have hsl1 : ∀ w, (Instr.slice 9 (.string s) (some (.int .i64 0)) (some (.int .i64 (K : Int))) none).run Tryd.prog w = .ok (.string s1) w := fun w => by
              rw [run_slice_string (P := Tryd.prog) w 9 _ _ _ _ _ Tryd.underlying9 (by omega) (by omega) (by omega), hs1]
              rfl
            have HN1 := hid (fun w => rnumber_s s1 (lt.take K) hst1.size (hid (fun i h h' => hst1.get i h h')) (by rw [List.length_take]; omega) HKD.out w)
            clear hs1 hst1
            generalize hVe : valF 0 (lt.take K) = V at *
            have HV := hid hVe
            obtain ⟨v1, v2⟩ := hV
            have v3 : V < 10000000000 := by omega
            clear hVe hVp v2
            go_upto_region 7 with (first | (go_at_call 11; (with_reducible refine (HR1.out _).mono ?_); rintro e w2 ⟨rfl, rfl⟩))
            go_cut [35] (fun s wq => s = .bool false ∧ w = wq)
            case first =>
              by_cases hk1 : 1 < K
              · have hk1I : (1 : Int) < (K : Int) := by omega
                have hc48 : ¬ (C0 = 48) := fun e => hb3 ⟨hk1, e⟩
                have hc48K : ((C0 : Int) == 48) = false := by simp; omega
                go_wp2_with fail
                go_meet
                all_goals exact ⟨by congr 1; simp; omega, rfl⟩
              · have hk1I : ¬ ((1 : Int) < (K : Int)) := by omega
                go_wp2_with fail
                go_meet
                all_goals exact ⟨by congr 1; simp; omega, rfl⟩
            case rest =>
              obtain ⟨rfl, rfl⟩ := hcut
              clear hg1 hb3 hb1 hb2 hb1I hb2I 
              have hQL : K ≤ L := by omega
              have hQLI : (K : Int) ≤ (L : Int) := by omega
              generalize hN0 : V * 65536 = N0 at *
              have HN0 := hid hN0
              have n1 : 0 ≤ N0 := by omega
              have n2 : N0 < 655360000000000 := by omega
              have hlT : lt.length + 0 = L := by rw [HTZ.out, HL.out]
              cases hr : lt.drop K with
              | nil =>
                have hQe : K = L := by have := congrArg List.length hr; rw [List.length_drop, List.length_nil] at this; omega
                have hQeI : ¬ ((K : Int) < (L : Int)) := by omega
                rcases Int.lt_or_le 140737488355328 N0 with hf | hf
                · have hfin : Hid (prsT false lt = (0, 4)) := hid (by rw [prsT_end hok.out (by rw [HK.out, hr]), HK.out, HV.out, HN0.out]; unfold fin; rw [if_pos hf])
                  clear hQe hlT
                  go_wp2_with (go_at_call 12; (with_reducible refine (HN1.out _).mono ?_); rintro e w3 ⟨rfl, rfl⟩)
                  refine bodyPost_ret (v := .tuple #[.int .i64 0, .int .i64 4]) (by simp [results, Tryd.results5, go_sem]) rfl ?_
                  exact ⟨by rw [HRES.out, hfin.out], rfl⟩
                · have hf' : ¬ (140737488355328 < N0) := by omega
                  have hfin : Hid (prsT false lt = (if false then -N0 else N0, 0)) := hid (by rw [prsT_end hok.out (by rw [HK.out, hr]), HK.out, HV.out, HN0.out]; unfold fin; rw [if_neg hf'])
                  have HS := hid (fun w => signed_any false N0 (by omega) hf w)
                  obtain ⟨SV, hSV⟩ : ∃ SV, SV = (if false then -N0 else N0) := ⟨_, rfl⟩
                  rw [← hSV] at HS hfin
                  clear hSV hQe hlT
                  go_wp2_with (first | (go_at_call 12; (with_reducible refine (HN1.out _).mono ?_); rintro e w3 ⟨rfl, rfl⟩) | (go_at_call 13; (with_reducible refine (HS.out _).mono ?_); rintro e w5 ⟨rfl, rfl⟩))
                  refine bodyPost_ret (v := .tuple #[.int .i64 SV, .int .i64 0]) (by simp [results, Tryd.results5, go_sem]) rfl ?_
                  exact ⟨by rw [HRES.out, hfin.out], rfl⟩
              | cons c r =>
                have hrlen : K + 1 + r.length = L := by have := congrArg List.length hr; rw [List.length_drop] at this; simp at this; omega
                have hQltI : (K : Int) < (L : Int) := by omega
                have hQs : K < s.size := by omega
                obtain ⟨Q1, hQ1⟩ : ∃ Q1, Q1 = K + 1 := ⟨_, rfl⟩
                have hQ1I : (K : Int) + 1 = (Q1 : Int) := by omega
                have hQ1L : (Q1 : Int) ≤ (L : Int) := by omega
                have hdQ : lt.drop K = c :: r := by rw [← hr, ← hdr, List.drop_drop]; try (congr 1 <;> omega)
                have hdQ1 : lt.drop Q1 = r := by rw [hQ1, ← List.drop_drop, hdQ]; rfl
                obtain ⟨C, hC⟩ : ∃ C, C = c.toNat := ⟨_, rfl⟩
                have hg2 : (s[K]'hQs).toNat = C := by
                  have hq : K < lt.length := by have := HL.out; omega
                  rw [HG.out K hq hQs, hC]
                  have e : (lt.drop K)[0]'(by rw [hdQ]; simp) = lt[K]'hq := by rw [List.getElem_drop]; simp
                  rw [← e]
                  simp only [hdQ]
                  rfl
                have HR2 := hid (fun w => run_s s lt Q1 HSTR.out.size HG hl (by have := HL.out; omega) w)
                rw [hdQ1] at HR2
                have hml := runN_le r
                have HRD := hid (take_digits r)
                generalize hm : runN r = m at *
                have HM := hid hm
                have HHDR := hid hdr
                have HDQ1 := hid hdQ1
                clear hm hdQ hdQ1 hdr
                have hmI0 : (0 : Int) ≤ (m : Int) := by omega
                have hmI1 : (m : Int) ≤ 140737488355328 := by omega
                have hQmI : (Q1 : Int) + (m : Int) ≤ (L : Int) := by omega
                by_cases hok2 : C ≠ 46 ∨ m < 1 ∨ 5 < m ∨ m ≠ r.length
                · have hbad : prsT false lt = (0, 2) := prsT_bad2 hok.out (by rw [HK.out, hr]) (by rw [HM.out, ← hC]; exact hok2)
                  clear hC
                  by_cases g1 : C = 46
                  · subst g1
                    by_cases g2 : m < 1
                    · have g2I : (m : Int) < 1 := by omega
                      clear hQ1 hlT hok2
                      go_wp2_with (first | (go_at_call 12; (with_reducible refine (HN1.out _).mono ?_); rintro e w3 ⟨rfl, rfl⟩) | (go_at_call 11; (with_reducible refine (HR2.out _).mono ?_); rintro e w2 ⟨rfl, rfl⟩))
                      refine bodyPost_ret (v := .tuple #[.int .i64 0, .int .i64 2]) (by simp [results, Tryd.results5, go_sem]) rfl ?_
                      exact ⟨by rw [HRES.out, hbad], rfl⟩
                    · have g2I : ¬ ((m : Int) < 1) := by omega
                      by_cases g3 : 5 < m
                      · have g3I : (5 : Int) < (m : Int) := by omega
                        clear hQ1 hlT hok2
                        go_wp2_with (first | (go_at_call 12; (with_reducible refine (HN1.out _).mono ?_); rintro e w3 ⟨rfl, rfl⟩) | (go_at_call 11; (with_reducible refine (HR2.out _).mono ?_); rintro e w2 ⟨rfl, rfl⟩))
                        refine bodyPost_ret (v := .tuple #[.int .i64 0, .int .i64 2]) (by simp [results, Tryd.results5, go_sem]) rfl ?_
                        exact ⟨by rw [HRES.out, hbad], rfl⟩
                      · have g3I : ¬ ((5 : Int) < (m : Int)) := by omega
                        have g4 : ((Q1 : Int) + (m : Int) != (L : Int)) = true := by simp; omega
                        clear hQ1 hlT hok2
                        go_wp2_with (first | (go_at_call 12; (with_reducible refine (HN1.out _).mono ?_); rintro e w3 ⟨rfl, rfl⟩) | (go_at_call 11; (with_reducible refine (HR2.out _).mono ?_); rintro e w2 ⟨rfl, rfl⟩))
                        refine bodyPost_ret (v := .tuple #[.int .i64 0, .int .i64 2]) (by simp [results, Tryd.results5, go_sem]) rfl ?_
                        exact ⟨by rw [HRES.out, hbad], rfl⟩
                  · have g1K : ((C : Int) != 46) = true := by simp; omega
                    clear hQ1 hlT hok2
                    go_wp2_with (first | (go_at_call 12; (with_reducible refine (HN1.out _).mono ?_); rintro e w3 ⟨rfl, rfl⟩) | (go_at_call 11; (with_reducible refine (HR2.out _).mono ?_); rintro e w2 ⟨rfl, rfl⟩))
                    refine bodyPost_ret (v := .tuple #[.int .i64 0, .int .i64 2]) (by simp [results, Tryd.results5, go_sem]) rfl ?_
                    exact ⟨by rw [HRES.out, hbad], rfl⟩
                · have g1 : C = 46 := by omega
                  have g2 : 1 ≤ m := by omega
                  have g3 : m ≤ 5 := by omega
                  have g4 : m = r.length := by omega
                  have hok2' : Hid (¬ (c.toNat ≠ 46 ∨ runN r < 1 ∨ 5 < runN r ∨ runN r ≠ r.length)) := hid (by rw [HM.out, ← hC]; exact hok2)
                  clear hok2
                  have hrr : r.take m = r := by rw [g4]; exact List.take_of_length_le (Nat.le_refl _)
                  rw [hrr] at HRD
                  obtain ⟨s3, hs3⟩ : ∃ s3, s3 = s.extract Q1 L := ⟨_, rfl⟩
                  have hst3 : Str s3 r := by have := HSTR.out.from Q1; rw [← HL.out, ← hs3, HDQ1.out] at this; exact this
                  have hs3' := hs3.symm
                  have HN3 := hid (fun w => rnumber_s s3 r hst3.size (hid (fun i h h' => hst3.get i h h')) (by omega) HRD.out w)
                  clear hs3 hst3
                  have hP := valF_range r 0 1 (by omega) (by omega) HRD.out
                  have hPp := p10' r.length 5 (by omega) 100000 (by decide)
                  obtain ⟨T, hT⟩ : ∃ T, T = (10 : Int) ^ m := ⟨_, rfl⟩
                  have t1 := p10' 1 m g2 T hT.symm
                  have t2 := p10' m 5 g3 100000 (by decide)
                  have te := even10 m g2
                  have HT' := hid hT
                  rw [← hT] at t2 te
                  rw [← g4, ← hT] at hPp
                  rw [← g4, ← hT] at hP
                  have t3 : (10 : Int) ≤ T := by simpa using t1
                  clear t1
                  clear hT
                  generalize hPe : valF 0 r = P at *
                  have HP := hid hPe
                  obtain ⟨p1, p2⟩ := hP
                  have p3 : P < 100000 := by omega
                  clear hPe p2 hPp hrr
                  subst g1
                  have g2I : ¬ ((m : Int) < 1) := by omega
                  have g3I : ¬ ((5 : Int) < (m : Int)) := by omega
                  have g4' : ((Q1 : Int) + (m : Int) != (L : Int)) = false := by simp; omega
                  have g5 : (Q1 : Int) + (m : Int) = (L : Int) := by omega
                  clear g4 hC hQ1 hlT hrlen
                  have HG5 := hid g5
                  generalize hPF : P * 65536 = PF at *
                  have p4 : 0 ≤ PF := by omega
                  have p5 : PF < 6553600000 := by omega
                  have HPF := hid hPF
                  go_upto_block 0 with (first | (go_at_call 12; (with_reducible refine (HN1.out _).mono ?_); rintro e w3 ⟨rfl, rfl⟩) | (go_at_call 11; (with_reducible refine (HR2.out _).mono ?_); rintro e w2 ⟨rfl, rfl⟩))
                  go_cut [9] (fun s9 wq => s9 = .int .u64 T ∧ w = wq)
                  case first =>
                    go_upto_region 17 with fail
                    go_loopw [9, 10] (fun s9 s10 wr => ∃ i : Nat, s9 = .int .u64 ((10 : Int) ^ i) ∧ s10 = .int .i64 i ∧ i ≤ m ∧ w = wr) (fun _ s10 _ => m - (intOf s10).toNat)
                    case atStart => exact ⟨0, by simp, rfl, Nat.zero_le _, rfl⟩
                    case round =>
                      obtain ⟨i, rfl, rfl, hi, rfl⟩ := hrel
                      have hi0 : (0 : Int) ≤ (i : Int) := by omega
                      have hi5 : (i : Int) ≤ 5 := by omega
                      by_cases him : i < m
                      · have himI : (i : Int) < (m : Int) := by omega
                        have hU := p10' i 5 (by omega) 100000 (by decide)
                        have hU0 : 0 ≤ (10 : Int) ^ i := Int.pow_nonneg (by omega)
                        have hUs : (10 : Int) * 10 ^ i = 10 ^ (i + 1) := by rw [Int.pow_succ, Int.mul_comm]
                        generalize (10 : Int) ^ i = U at *
                        have HUS := hid hUs
                        clear hUs
                        go_wp2_with fail
                        go_roundw
                        case rel => exact ⟨i + 1, by rw [← HUS.out], by go_num, by omega, trivial⟩
                        case measure => simp [intOf]; omega
                      · have hime : i = m := by omega
                        have himI : ¬ ((i : Int) < (m : Int)) := by omega
                        have hTi : (10 : Int) ^ i = T := by rw [HT'.out, hime]
                        clear hime
                        go_wp2_with fail
                        go_meet
                        all_goals (first | exact ⟨trivial, trivial⟩ | exact ⟨by rw [hTi], rfl⟩ | exact ⟨rfl, rfl⟩ | trivial)
                  case rest =>
                    obtain ⟨rfl, rfl⟩ := hcut
                    have u1 : 0 ≤ PF / T := Int.ediv_nonneg (by omega) (by omega)
                    have u2 : PF / T ≤ PF := Int.ediv_le_self _ (by omega)
                    have u2' : PF / T ≤ 6553600000 := by omega
                    have u3 : ¬ (T = 0) := by omega
                    have u4 : (T == 0) = false := by simp; omega
                    have r0 := Int.emod_nonneg PF u3
                    have r1 := Int.emod_lt_of_pos PF (show 0 < T by omega)
                    have hrnd := rnd PF T (by omega) te
                    generalize hF : (PF + T / 2) / T = F at *
                    have HF := hid hF
                    have HRND := hid hrnd
                    have f0 : 0 ≤ F := by rw [hrnd]; split <;> omega
                    have f1 : F ≤ 6553600001 := by rw [hrnd]; split <;> omega
                    clear hF u2 hrnd te
                    go_upto_if 99 with (go_at_call 12; (with_reducible refine (HN3.out _).mono ?_); rintro e w4 ⟨rfl, rfl⟩)
                    go_cut [6] (fun s6 wq => s6 = .int .u64 (N0 + F) ∧ w = wq)
                    case first =>
                      by_cases hh : T ≤ 2 * (PF % T)
                      · have hF2 : PF / T + 1 = F := by rw [HRND.out, if_pos hh]
                        have hF3 : N0 + PF / T + 1 = N0 + F := by omega
                        clear hF2
                        go_wp2_with fail
                        go_meet
                        all_goals (first | exact ⟨trivial, trivial⟩ | exact ⟨rfl, rfl⟩ | trivial | exact ⟨by congr 1, rfl⟩)
                      · have hh' : 2 * (PF % T) < T := by omega
                        have hF2 : PF / T = F := by rw [HRND.out, if_neg hh, Int.add_zero]
                        go_wp2_with fail
                        go_meet
                        all_goals (first | exact ⟨trivial, trivial⟩ | exact ⟨rfl, rfl⟩ | trivial | exact ⟨by rw [hF2], rfl⟩)
                    case rest =>
                      obtain ⟨rfl, rfl⟩ := hcut
                      rcases Int.lt_or_le 140737488355328 (N0 + F) with hf | hf
                      · have hfin : Hid (prsT false lt = (0, 4)) := hid (by rw [prsT_part hok.out (by rw [HK.out, hr]) hok2'.out, HK.out, HV.out, HN0.out, HM.out, HP.out, ← HT'.out, HPF.out, HF.out]; unfold fin; rw [if_pos hf])
                        go_wp2_with fail
                        refine bodyPost_ret (v := .tuple #[.int .i64 0, .int .i64 4]) (by simp [results, Tryd.results5, go_sem]) rfl ?_
                        exact ⟨by rw [HRES.out, hfin.out], rfl⟩
                      · have hf' : ¬ (140737488355328 < N0 + F) := by omega
                        have hfin : Hid (prsT false lt = (if false then -(N0 + F) else N0 + F, 0)) := hid (by rw [prsT_part hok.out (by rw [HK.out, hr]) hok2'.out, HK.out, HV.out, HN0.out, HM.out, HP.out, ← HT'.out, HPF.out, HF.out]; unfold fin; rw [if_neg hf'])
                        have HS := hid (fun w => signed_any false (N0 + F) (by omega) hf w)
                        obtain ⟨SV, hSV⟩ : ∃ SV, SV = (if false then -(N0 + F) else N0 + F) := ⟨_, rfl⟩
                        rw [← hSV] at HS hfin
                        clear hSV
                        go_wp2_with (first | (go_at_call 13; (with_reducible refine (HS.out _).mono ?_); rintro e w5 ⟨rfl, rfl⟩))
                        refine bodyPost_ret (v := .tuple #[.int .i64 SV, .int .i64 0]) (by simp [results, Tryd.results5, go_sem]) rfl ?_
                        exact ⟨by rw [HRES.out, hfin.out], rfl⟩
end Go.Proofs.YteinfhfapelegaaDoor
