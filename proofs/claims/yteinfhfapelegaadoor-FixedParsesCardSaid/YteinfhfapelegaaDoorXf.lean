/- Walks: Parse. -/
import Derived.Test.YteinfhfapelegaaDoorXe
import Derived.Deep.DeepCutAuto
namespace Go.Proofs.YteinfhfapelegaaDoor
open Go.RowKit
set_option linter.unusedVariables false
set_option linter.unusedSimpArgs false
def fin (ng : Bool) (n : Int) : Int × Int := if 140737488355328 < n then (0, 4) else (if ng then -n else n, 0)
/-- a text behind its sign, parsed -/
def prsT (ng : Bool) (t : List UInt8) : Int × Int :=
  if runN t < 1 ∨ 10 < runN t ∨ (1 < runN t ∧ t.head?.map UInt8.toNat = some 48) then (0, 2)
  else match t.drop (runN t) with
    | [] => fin ng (valF 0 (t.take (runN t)) * 65536)
    | c :: r => if c.toNat ≠ 46 ∨ runN r < 1 ∨ 5 < runN r ∨ runN r ≠ r.length then (0, 2) else fin ng (valF 0 (t.take (runN t)) * 65536 + (valF 0 r * 65536 + 10 ^ runN r / 2) / 10 ^ runN r)
def prs : List UInt8 → Int × Int
  | [] => (0, 1)
  | b :: l => if b.toNat = 45 then prsT true l else prsT false (b :: l)
theorem prsT_bad {ng : Bool} {t : List UInt8} (h : runN t < 1 ∨ 10 < runN t ∨ (1 < runN t ∧ t.head?.map UInt8.toNat = some 48)) : prsT ng t = (0, 2) := by
  unfold prsT
  rw [if_pos h]
theorem prsT_end {ng : Bool} {t : List UInt8} (h : ¬ (runN t < 1 ∨ 10 < runN t ∨ (1 < runN t ∧ t.head?.map UInt8.toNat = some 48))) (e : t.drop (runN t) = []) : prsT ng t = fin ng (valF 0 (t.take (runN t)) * 65536) := by
  unfold prsT
  rw [if_neg h, e]
theorem prsT_bad2 {ng : Bool} {t r : List UInt8} {c : UInt8} (h : ¬ (runN t < 1 ∨ 10 < runN t ∨ (1 < runN t ∧ t.head?.map UInt8.toNat = some 48))) (e : t.drop (runN t) = c :: r) (h2 : c.toNat ≠ 46 ∨ runN r < 1 ∨ 5 < runN r ∨ runN r ≠ r.length) : prsT ng t = (0, 2) := by
  unfold prsT
  rw [if_neg h, e]
  show (if _ then _ else _) = _
  rw [if_pos h2]
theorem prsT_part {ng : Bool} {t r : List UInt8} {c : UInt8} (h : ¬ (runN t < 1 ∨ 10 < runN t ∨ (1 < runN t ∧ t.head?.map UInt8.toNat = some 48))) (e : t.drop (runN t) = c :: r) (h2 : ¬ (c.toNat ≠ 46 ∨ runN r < 1 ∨ 5 < runN r ∨ runN r ≠ r.length)) : prsT ng t = fin ng (valF 0 (t.take (runN t)) * 65536 + (valF 0 r * 65536 + 10 ^ runN r / 2) / 10 ^ runN r) := by
  unfold prsT
  rw [if_neg h, e]
  show (if _ then _ else _) = _
  rw [if_neg h2]
/-- a string holds these bytes -/
structure Str (s : ByteArray) (l : List UInt8) : Prop where
  eq : s = bs l
theorem Str.size {s : ByteArray} {l : List UInt8} (h : Str s l) : s.size = l.length := by rw [h.eq, bs_size]
theorem Str.get {s : ByteArray} {l : List UInt8} (h : Str s l) (i : Nat) (hi : i < l.length) (h' : i < s.size) : s[i]'h' = l[i] := by
  obtain ⟨rfl⟩ := h
  exact bs_get l i hi h'
theorem Str.list {s : ByteArray} {l : List UInt8} (h : Str s l) : s.toList = l := by rw [h.eq]; exact ByteArray.toList_mk l
theorem Str.ext {s : ByteArray} {l : List UInt8} (h : Str s l) (a b : Nat) : Str (s.extract a b) ((l.drop a).take (b - a)) := ⟨by rw [h.eq]; exact ByteArray.extract_mk l a b⟩
theorem Str.from {s : ByteArray} {l : List UInt8} (h : Str s l) (a : Nat) : Str (s.extract a l.length) (l.drop a) := by
  have := h.ext a l.length
  rwa [List.take_of_length_le (by rw [List.length_drop]; omega)] at this
theorem take_digits (t : List UInt8) : ∀ b ∈ t.take (runN t), isD b = true := fun b hb => by
  obtain ⟨i, hi, e⟩ := List.getElem_of_mem hb
  have hi' : i < runN t := by simp at hi; omega
  rw [← e, List.getElem_take]
  exact runN_digit t i hi'
theorem p10' (n m : Nat) (h : n ≤ m) (c : Int) (hc : (10 : Int) ^ m = c) : (10 : Int) ^ n ≤ c := by
  obtain ⟨d, rfl⟩ := Nat.exists_eq_add_of_le h
  rw [Int.pow_add] at hc
  have h1 : 1 ≤ (10 : Int) ^ d := by
    clear h hc
    induction d with
    | zero => decide
    | succ d ih => rw [Int.pow_succ]; omega
  have h0 : 0 ≤ (10 : Int) ^ n := Int.pow_nonneg (by omega)
  have := Int.mul_le_mul_of_nonneg_left h1 h0
  omega
set_option maxHeartbeats 16000000 in
set_option maxRecDepth 100000 in
theorem parse_any (s : ByteArray) (l : List UInt8) (hs : Str s l) (hl : l.length ≤ 140737488355328) (w : World) (hT : Tens w) : Calls Tryd.prog 4 #[.string s] w fun e w' => e = .returned (.tuple #[.int .i64 (prs l).1, .int .i64 (prs l).2]) ∧ Below w.heap.size w w' := by
  have HT := hid hT
  clear hT
  cases l with
  | nil =>
    have htl : s.toList = [] := hs.list
    go_enter Tryd.func4, Tryd.ntmps4
    go_wp2_with fail
    refine bodyPost_ret (v := .tuple #[.int .i64 0, .int .i64 1]) (by simp [results, Tryd.results4, go_sem]) rfl ?_
    exact ⟨rfl, Below.refl _ _⟩
  | cons b0 l0 =>
    have htl : s.toList = b0 :: l0 := hs.list
    have hsz := hs.size
    have h0s : 0 < s.size := by rw [hsz]; simp
    obtain ⟨B0, hB0⟩ : ∃ B0, B0 = b0.toNat := ⟨_, rfl⟩
    have hg0 : (s[0]'h0s).toNat = B0 := by rw [hs.get 0 (by simp) h0s, hB0]; rfl
    have HSTR := hid hs
    obtain ⟨L, hL⟩ : ∃ L, L = (b0 :: l0).length := ⟨_, rfl⟩
    rw [← hL] at hsz hl
    have hL1 : (1 : Int) ≤ (L : Int) := by rw [hL]; simp; omega
    have hLI : (L : Int) ≤ 140737488355328 := by omega
    by_cases hneg : B0 = 45
    · have HRES : Hid (prs (b0 :: l0) = prsT true l0) := hid (by show (if _ then _ else _) = _; rw [if_pos (by rw [← hB0]; exact hneg)])
      obtain ⟨s1, hs1⟩ : ∃ s1, s1 = s.extract 1 L := ⟨_, rfl⟩
      have hst1 : Str s1 l0 := by have := hs.from 1; rw [← hL, ← hs1] at this; exact this
      have hs1' := hs1.symm
      subst hneg
      have hL2 := hL
      clear hB0 hs hs1
      have ht1 : l0.length ≤ L := by rw [hL2]; simp
      clear hL hL2
      go_enter Tryd.func4, Tryd.ntmps4
      have hst1z := hst1.size
      have HST1 := hid hst1
      have HN := hid (fun w => number_s s1 l0 hst1z (hid (fun i h h' => hst1.get i h h')) (by omega) w)
      have hKl := runN_le l0
      have HKD := hid (take_digits l0)
      generalize hK : runN l0 = K at *
      have HK := hid hK
      clear hK hst1
      have hKI0 : (0 : Int) ≤ (K : Int) := by omega
      have hKIL : (K : Int) ≤ (L : Int) := by omega
      by_cases hb1 : K < 1
      · have hb1I : (K : Int) < 1 := by omega
        have hbad : prsT true l0 = (0, 2) := prsT_bad (by rw [HK.out]; exact Or.inl hb1)
        generalize valF 0 (l0.take (min K 12)) = V at *
        go_wp2_with (first | (go_at_call 9; (with_reducible refine (HN.out _).mono ?_); rintro e w2 ⟨rfl, rfl⟩))
        refine bodyPost_ret (v := .tuple #[.int .i64 0, .int .i64 2]) (by simp [results, Tryd.results4, go_sem]) rfl ?_
        exact ⟨by rw [HRES.out, hbad], Below.refl _ _⟩
      · by_cases hb2 : 10 < K
        · have hb1I : ¬ ((K : Int) < 1) := by omega
          have hb2I : (10 : Int) < (K : Int) := by omega
          have hbad : prsT true l0 = (0, 2) := prsT_bad (by rw [HK.out]; exact Or.inr (Or.inl hb2))
          generalize valF 0 (l0.take (min K 12)) = V at *
          go_wp2_with (first | (go_at_call 9; (with_reducible refine (HN.out _).mono ?_); rintro e w2 ⟨rfl, rfl⟩))
          refine bodyPost_ret (v := .tuple #[.int .i64 0, .int .i64 2]) (by simp [results, Tryd.results4, go_sem]) rfl ?_
          exact ⟨by rw [HRES.out, hbad], Below.refl _ _⟩
        · have hb1I : ¬ ((K : Int) < 1) := by omega
          have hb2I : ¬ ((10 : Int) < (K : Int)) := by omega
          have hl0 : 0 < l0.length := by omega
          have hks : 0 < s1.size := by omega
          obtain ⟨C0, hC0⟩ : ∃ C0, C0 = (l0[0]'hl0).toNat := ⟨_, rfl⟩
          have hg1 : (s1[0]'hks).toNat = C0 := by rw [HST1.out.get 0 hl0 hks, hC0]
          have hhd : l0.head?.map UInt8.toNat = some C0 := by rw [hC0, List.head?_eq_getElem?, List.getElem?_eq_getElem hl0]; rfl
          have HHD := hid hhd
          clear hC0 hhd
          have hszI : (0 : Int) < (l0.length : Int) := by omega
          by_cases hb3 : 1 < K ∧ C0 = 48
          · obtain ⟨hb3, hb4⟩ := hb3
            subst hb4
            have hb3I : (1 : Int) < (K : Int) := by omega
            have hbad : prsT true l0 = (0, 2) := prsT_bad (by rw [HK.out]; exact Or.inr (Or.inr ⟨hb3, HHD.out⟩))
            generalize valF 0 (l0.take (min K 12)) = V at *
            go_wp2_with (first | (go_at_call 9; (with_reducible refine (HN.out _).mono ?_); rintro e w2 ⟨rfl, rfl⟩))
            refine bodyPost_ret (v := .tuple #[.int .i64 0, .int .i64 2]) (by simp [results, Tryd.results4, go_sem]) rfl ?_
            exact ⟨by rw [HRES.out, hbad], Below.refl _ _⟩
          · have hok : Hid (¬ (runN l0 < 1 ∨ 10 < runN l0 ∨ (1 < runN l0 ∧ l0.head?.map UInt8.toNat = some 48))) := hid (by
              rw [HK.out, HHD.out]
              rintro (h | h | ⟨h, h'⟩)
              · omega
              · omega
              · injection h' with h'; exact hb3 ⟨h, h'⟩)
            rw [show min K 12 = K from by omega] at HN
            have hV := valF_range (l0.take K) 0 1 (by omega) (by omega) HKD.out
            have hVp := p10' (l0.take K).length 10 (by rw [List.length_take]; omega) 10000000000 (by decide)
            generalize hVe : valF 0 (l0.take K) = V at *
            have HV := hid hVe
            obtain ⟨v1, v2⟩ := hV
            have v3 : V < 10000000000 := by omega
            clear hVe hVp v2
            go_upto_region 7 with (first | (go_at_call 9; (with_reducible refine (HN.out _).mono ?_); rintro e w2 ⟨rfl, rfl⟩))
            go_cut [37] (fun s wq => s = .bool false ∧ w = wq)
            case first =>
              by_cases hk1 : 1 < K
              · have hk1I : (1 : Int) < (K : Int) := by omega
                have hc48 : ¬ (C0 = 48) := fun e => hb3 ⟨hk1, e⟩
                have hc48K : ((C0 : Int) == 48) = false := by simp; omega
                go_wp2_with fail
                go_meet
                all_goals exact ⟨by congr 1; simp; omega, rfl⟩
              · have hk1I : ¬ ((1 : Int) < (K : Int)) := by omega
                go_wp2_with fail
                go_meet
                all_goals exact ⟨by congr 1; simp; omega, rfl⟩
            case rest =>
              obtain ⟨rfl, rfl⟩ := hcut
              clear hg1 hb3 hb1 hb2 hb1I hb2I
              have hKT : K ≤ l0.length := hKl
              have hKTI : (K : Int) ≤ (l0.length : Int) := by omega
              have hTLI : (l0.length : Int) ≤ 140737488355328 := by omega
              obtain ⟨s2, hs2⟩ : ∃ s2, s2 = s1.extract K l0.length := ⟨_, rfl⟩
              have hst2 : Str s2 (l0.drop K) := by rw [hs2]; exact HST1.out.from K
              have hs2' := hs2.symm
              clear hs2
              generalize hN0 : V * 65536 = N0 at *
              have HN0 := hid hN0
              have n1 : 0 ≤ N0 := by omega
              have n2 : N0 < 655360000000000 := by omega
              cases hr : l0.drop K with
              | nil =>
                rw [hr] at hst2
                have htl2 := hst2.list
                rcases Int.lt_or_le 140737488355328 N0 with hf | hf
                · have hfin : Hid (prsT true l0 = (0, 4)) := hid (by rw [prsT_end hok.out (by rw [HK.out, hr]), HK.out, HV.out, HN0.out]; unfold fin; rw [if_pos hf])
                  go_wp2_with fail
                  refine bodyPost_ret (v := .tuple #[.int .i64 0, .int .i64 4]) (by simp [results, Tryd.results4, go_sem]) rfl ?_
                  exact ⟨by rw [HRES.out, hfin.out], Below.refl _ _⟩
                · have hf' : ¬ (140737488355328 < N0) := by omega
                  have hfin : Hid (prsT true l0 = (if true then -N0 else N0, 0)) := hid (by rw [prsT_end hok.out (by rw [HK.out, hr]), HK.out, HV.out, HN0.out]; unfold fin; rw [if_neg hf'])
                  have HS := hid (fun w => saturated_any true N0 (by omega) hf w)
                  obtain ⟨SV, hSV⟩ : ∃ SV, SV = (if true then -N0 else N0) := ⟨_, rfl⟩
                  rw [← hSV] at HS hfin
                  clear hSV
                  go_wp2_with (first | (go_at_call 10; (with_reducible refine (HS.out _).mono ?_); rintro e w5 ⟨rfl, rfl⟩))
                  refine bodyPost_ret (v := .tuple #[.int .i64 SV, .int .i64 0]) (by simp [results, Tryd.results4, go_sem]) rfl ?_
                  exact ⟨by rw [HRES.out, hfin.out], Below.refl _ _⟩
              | cons c r =>
                rw [hr] at hst2
                have htl2 := hst2.list
                have hz2 := hst2.size
                obtain ⟨M, hM⟩ : ∃ M, M = (c :: r).length := ⟨_, rfl⟩
                have hMr : r.length + 1 = M := by rw [hM]; simp
                have hMT : M ≤ l0.length := by have := congrArg List.length hr; rw [List.length_drop] at this; rw [hM]; omega
                rw [← hM] at hz2
                have hM1 : (1 : Int) ≤ (M : Int) := by omega
                have hMI : (M : Int) ≤ 140737488355328 := by omega
                obtain ⟨s3, hs3⟩ : ∃ s3, s3 = s2.extract 1 M := ⟨_, rfl⟩
                have hst3 : Str s3 r := by rw [hs3, hM]; exact hst2.from 1
                have hs3' := hs3.symm
                have h2s : 0 < s2.size := by omega
                obtain ⟨C, hC⟩ : ∃ C, C = c.toNat := ⟨_, rfl⟩
                have hg2 : (s2[0]'h2s).toNat = C := by rw [hst2.get 0 (by simp) h2s, hC]; rfl
                have HN3 := hid (fun w => number_s s3 r hst3.size (hid (fun i h h' => hst3.get i h h')) (by omega) w)
                have hml := runN_le r
                have HRD := hid (take_digits r)
                generalize hm : runN r = m at *
                have HM := hid hm
                clear hm hs3 hM hst3 hst2
                have hmI0 : (0 : Int) ≤ (m : Int) := by omega
                have hmI1 : (m : Int) ≤ 140737488355328 := by omega
                by_cases hok2 : C ≠ 46 ∨ m < 1 ∨ 5 < m ∨ m ≠ r.length
                · have hbad : prsT true l0 = (0, 2) := prsT_bad2 hok.out (by rw [HK.out, hr]) (by rw [HM.out, ← hC]; exact hok2)
                  clear hC
                  generalize valF 0 (r.take (min m 12)) = VV at *
                  by_cases g1 : C = 46
                  · subst g1
                    by_cases g2 : m < 1
                    · have g2I : (m : Int) < 1 := by omega
                      go_wp2_with (first | (go_at_call 9; (with_reducible refine (HN3.out _).mono ?_); rintro e w2 ⟨rfl, rfl⟩))
                      refine bodyPost_ret (v := .tuple #[.int .i64 0, .int .i64 2]) (by simp [results, Tryd.results4, go_sem]) rfl ?_
                      exact ⟨by rw [HRES.out, hbad], Below.refl _ _⟩
                    · have g2I : ¬ ((m : Int) < 1) := by omega
                      by_cases g3 : 5 < m
                      · have g3I : (5 : Int) < (m : Int) := by omega
                        go_wp2_with (first | (go_at_call 9; (with_reducible refine (HN3.out _).mono ?_); rintro e w2 ⟨rfl, rfl⟩))
                        refine bodyPost_ret (v := .tuple #[.int .i64 0, .int .i64 2]) (by simp [results, Tryd.results4, go_sem]) rfl ?_
                        exact ⟨by rw [HRES.out, hbad], Below.refl _ _⟩
                      · have g3I : ¬ ((5 : Int) < (m : Int)) := by omega
                        have g4 : ((m : Int) != (M : Int) - 1) = true := by simp; omega
                        have g5 : ¬ ((m : Int) = (M : Int) - 1) := by omega
                        go_wp2_with (first | (go_at_call 9; (with_reducible refine (HN3.out _).mono ?_); rintro e w2 ⟨rfl, rfl⟩))
                        refine bodyPost_ret (v := .tuple #[.int .i64 0, .int .i64 2]) (by simp [results, Tryd.results4, go_sem]) rfl ?_
                        exact ⟨by rw [HRES.out, hbad], Below.refl _ _⟩
                  · have g1K : ((C : Int) != 46) = true := by simp; omega
                    go_wp2_with (first | (go_at_call 9; (with_reducible refine (HN3.out _).mono ?_); rintro e w2 ⟨rfl, rfl⟩))
                    refine bodyPost_ret (v := .tuple #[.int .i64 0, .int .i64 2]) (by simp [results, Tryd.results4, go_sem]) rfl ?_
                    exact ⟨by rw [HRES.out, hbad], Below.refl _ _⟩
                · skip
                  have g1 : C = 46 := by omega
                  have g2 : 1 ≤ m := by omega
                  have g3 : m ≤ 5 := by omega
                  have g4 : m = r.length := by omega
                  have hok2' : Hid (¬ (c.toNat ≠ 46 ∨ runN r < 1 ∨ 5 < runN r ∨ runN r ≠ r.length)) := hid (by rw [HM.out, ← hC]; exact hok2)
                  clear hok2
                  rw [show min m 12 = m from by omega] at HN3
                  have hrr : r.take m = r := by rw [g4]; exact List.take_of_length_le (Nat.le_refl _)
                  rw [hrr] at HN3 HRD
                  have hP := valF_range r 0 1 (by omega) (by omega) HRD.out
                  have hPp := p10' r.length 5 (by omega) 100000 (by decide)
                  obtain ⟨T, hT⟩ : ∃ T, T = (10 : Int) ^ m := ⟨_, rfl⟩
                  have t1 := p10' 1 m g2 T hT.symm
                  have t2 := p10' m 5 g3 100000 (by decide)
                  have HT' := hid hT
                  rw [← hT] at t2
                  rw [← g4, ← hT] at hPp
                  rw [← g4, ← hT] at hP
                  have t3 : (10 : Int) ≤ T := by simpa using t1
                  clear t1
                  have hc := HT.out.2 m (by omega)
                  rw [← hT] at hc
                  clear hT
                  have hw0 := HT.out.1
                  have K5 : ∀ z : Later w, z.val.cell? ⟨0, m, none⟩ = some (.int .u64 T) := fun z => (z.cell hw0).trans hc
                  generalize hPe : valF 0 r = P at *
                  have HP := hid hPe
                  obtain ⟨p1, p2⟩ := hP
                  have p3 : P < 100000 := by omega
                  clear hPe p2 hPp hrr
                  subst g1
                  have g2I : ¬ ((m : Int) < 1) := by omega
                  have g3I : ¬ ((5 : Int) < (m : Int)) := by omega
                  have g4' : ((m : Int) != (M : Int) - 1) = false := by simp; omega
                  have hMm : (M : Int) = (m : Int) + 1 := by omega
                  clear g4
                  have hm6 : (m : Int) < 6 := by omega
                  have hm6' : m < 6 := by omega
                  clear hC
                  have t4 : 0 ≤ T / 2 := by omega
                  have t5 : T / 2 < 100000 := by omega
                  have u1 : 0 ≤ (P * 65536 + T / 2) / T := Int.ediv_nonneg (by omega) (by omega)
                  have u2 : (P * 65536 + T / 2) / T ≤ P * 65536 + T / 2 := Int.ediv_le_self _ (by omega)
                  have u2' : (P * 65536 + T / 2) / T ≤ 6553700000 := by omega
                  have u3 : ¬ (T = 0) := by omega
                  have u4 : (T == 0) = false := by simp; omega
                  clear u2
                  go_upto_region 15 with (first | (go_at_call 9; (with_reducible refine (HN3.out _).mono ?_); rintro e w2 ⟨rfl, rfl⟩))
                  refine wp_region_later (w0 := w) (Below.refl _ _) (by kernel_rfl) (by kernel_rfl) ?_
                  repeat (go_big_quiet_step (fail))
                  refine wpQuiet_nil ?_
                  intro _ hw'
                  obtain ⟨y, hw''⟩ := hw'
                  subst hw''
                  have hyb := y.ok
                  generalize hF : (P * 65536 + T / 2) / T = F at *
                  have HF := hid hF
                  clear hF t4 t5
                  rcases Int.lt_or_le 140737488355328 (N0 + F) with hf | hf
                  · have hfin : Hid (prsT true l0 = (0, 4)) := hid (by rw [prsT_part hok.out (by rw [HK.out, hr]) hok2'.out, HK.out, HV.out, HN0.out, HM.out, HP.out, ← HT'.out, HF.out]; unfold fin; rw [if_pos hf])
                    go_wp2_with fail
                    refine bodyPost_ret (v := .tuple #[.int .i64 0, .int .i64 4]) (by simp [results, Tryd.results4, go_sem]) rfl ?_
                    exact ⟨by rw [HRES.out, hfin.out], hyb⟩
                  · have hf' : ¬ (140737488355328 < N0 + F) := by omega
                    have hfin : Hid (prsT true l0 = (if true then -(N0 + F) else N0 + F, 0)) := hid (by rw [prsT_part hok.out (by rw [HK.out, hr]) hok2'.out, HK.out, HV.out, HN0.out, HM.out, HP.out, ← HT'.out, HF.out]; unfold fin; rw [if_neg hf'])
                    have HS := hid (fun w => saturated_any true (N0 + F) (by omega) hf w)
                    obtain ⟨SV, hSV⟩ : ∃ SV, SV = (if true then -(N0 + F) else N0 + F) := ⟨_, rfl⟩
                    rw [← hSV] at HS hfin
                    clear hSV
                    go_wp2_with (first | (go_at_call 10; (with_reducible refine (HS.out _).mono ?_); rintro e w5 ⟨rfl, rfl⟩))
                    refine bodyPost_ret (v := .tuple #[.int .i64 SV, .int .i64 0]) (by simp [results, Tryd.results4, go_sem]) rfl ?_
                    exact ⟨by rw [HRES.out, hfin.out], hyb⟩
    · have HRES : Hid (prs (b0 :: l0) = prsT false (b0 :: l0)) := hid (by show (if _ then _ else _) = _; rw [if_neg (by rw [← hB0]; exact hneg)])
      have hnegK : ((B0 : Int) == 45) = false := by simp; omega
      have hst1 := hs
      have hlte : (b0 :: l0).isEmpty = false := rfl
      have hst1z : s.size = (b0 :: l0).length := hs.size
      generalize hlt : b0 :: l0 = lt at *
      clear hlt hB0 hs
      have ht1 : lt.length ≤ L := by omega
      have hLt : (lt.length : Int) = (L : Int) := by omega
      go_enter Tryd.func4, Tryd.ntmps4
      have HST1 := hid hst1
      have HN := hid (fun w => number_s s lt hst1z (hid (fun i h h' => hst1.get i h h')) (by omega) w)
      have hKl := runN_le lt
      have HKD := hid (take_digits lt)
      generalize hK : runN lt = K at *
      have HK := hid hK
      clear hK hst1
      have hKI0 : (0 : Int) ≤ (K : Int) := by omega
      have hKIL : (K : Int) ≤ (L : Int) := by omega
      by_cases hb1 : K < 1
      · have hb1I : (K : Int) < 1 := by omega
        have hbad : prsT false lt = (0, 2) := prsT_bad (by rw [HK.out]; exact Or.inl hb1)
        generalize valF 0 (lt.take (min K 12)) = V at *
        go_wp2_with (first | (go_at_call 9; (with_reducible refine (HN.out _).mono ?_); rintro e w2 ⟨rfl, rfl⟩))
        refine bodyPost_ret (v := .tuple #[.int .i64 0, .int .i64 2]) (by simp [results, Tryd.results4, go_sem]) rfl ?_
        exact ⟨by rw [HRES.out, hbad], Below.refl _ _⟩
      · by_cases hb2 : 10 < K
        · have hb1I : ¬ ((K : Int) < 1) := by omega
          have hb2I : (10 : Int) < (K : Int) := by omega
          have hbad : prsT false lt = (0, 2) := prsT_bad (by rw [HK.out]; exact Or.inr (Or.inl hb2))
          generalize valF 0 (lt.take (min K 12)) = V at *
          go_wp2_with (first | (go_at_call 9; (with_reducible refine (HN.out _).mono ?_); rintro e w2 ⟨rfl, rfl⟩))
          refine bodyPost_ret (v := .tuple #[.int .i64 0, .int .i64 2]) (by simp [results, Tryd.results4, go_sem]) rfl ?_
          exact ⟨by rw [HRES.out, hbad], Below.refl _ _⟩
        · have hb1I : ¬ ((K : Int) < 1) := by omega
          have hb2I : ¬ ((10 : Int) < (K : Int)) := by omega
          have hl0 : 0 < lt.length := by omega
          have hks : 0 < s.size := by omega
          obtain ⟨C0, hC0⟩ : ∃ C0, C0 = (lt[0]'hl0).toNat := ⟨_, rfl⟩
          have hg1 : (s[0]'hks).toNat = C0 := by rw [HST1.out.get 0 hl0 hks, hC0]
          obtain rfl : C0 = B0 := hg1.symm.trans hg0
          have hhd : lt.head?.map UInt8.toNat = some C0 := by rw [hC0, List.head?_eq_getElem?, List.getElem?_eq_getElem hl0]; rfl
          have HHD := hid hhd
          clear hC0 hhd
          have hszI : (0 : Int) < (lt.length : Int) := by omega
          by_cases hb3 : 1 < K ∧ C0 = 48
          · obtain ⟨hb3, hb4⟩ := hb3
            subst hb4
            have hb3I : (1 : Int) < (K : Int) := by omega
            have hbad : prsT false lt = (0, 2) := prsT_bad (by rw [HK.out]; exact Or.inr (Or.inr ⟨hb3, HHD.out⟩))
            generalize valF 0 (lt.take (min K 12)) = V at *
            go_wp2_with (first | (go_at_call 9; (with_reducible refine (HN.out _).mono ?_); rintro e w2 ⟨rfl, rfl⟩))
            refine bodyPost_ret (v := .tuple #[.int .i64 0, .int .i64 2]) (by simp [results, Tryd.results4, go_sem]) rfl ?_
            exact ⟨by rw [HRES.out, hbad], Below.refl _ _⟩
          · have hok : Hid (¬ (runN lt < 1 ∨ 10 < runN lt ∨ (1 < runN lt ∧ lt.head?.map UInt8.toNat = some 48))) := hid (by
              rw [HK.out, HHD.out]
              rintro (h | h | ⟨h, h'⟩)
              · omega
              · omega
              · injection h' with h'; exact hb3 ⟨h, h'⟩)
            rw [show min K 12 = K from by omega] at HN
            have hV := valF_range (lt.take K) 0 1 (by omega) (by omega) HKD.out
            have hVp := p10' (lt.take K).length 10 (by rw [List.length_take]; omega) 10000000000 (by decide)
            generalize hVe : valF 0 (lt.take K) = V at *
            have HV := hid hVe
            obtain ⟨v1, v2⟩ := hV
            have v3 : V < 10000000000 := by omega
            clear hVe hVp v2
            go_upto_region 7 with (first | (go_at_call 9; (with_reducible refine (HN.out _).mono ?_); rintro e w2 ⟨rfl, rfl⟩))
            go_cut [37] (fun s wq => s = .bool false ∧ w = wq)
            case first =>
              by_cases hk1 : 1 < K
              · have hk1I : (1 : Int) < (K : Int) := by omega
                have hc48 : ¬ (C0 = 48) := fun e => hb3 ⟨hk1, e⟩
                have hc48K : ((C0 : Int) == 48) = false := by simp; omega
                go_wp2_with fail
                go_meet
                all_goals exact ⟨by congr 1; simp; omega, rfl⟩
              · have hk1I : ¬ ((1 : Int) < (K : Int)) := by omega
                go_wp2_with fail
                go_meet
                all_goals exact ⟨by congr 1; simp; omega, rfl⟩
            case rest =>
              obtain ⟨rfl, rfl⟩ := hcut
              clear hg1 hb3 hb1 hb2 hb1I hb2I
              have hKT : K ≤ lt.length := hKl
              have hKTI : (K : Int) ≤ (lt.length : Int) := by omega
              have hTLI : (lt.length : Int) ≤ 140737488355328 := by omega
              obtain ⟨s2, hs2⟩ : ∃ s2, s2 = s.extract K lt.length := ⟨_, rfl⟩
              have hst2 : Str s2 (lt.drop K) := by rw [hs2]; exact HST1.out.from K
              have hs2' := hs2.symm
              clear hs2
              generalize hN0 : V * 65536 = N0 at *
              have HN0 := hid hN0
              have n1 : 0 ≤ N0 := by omega
              have n2 : N0 < 655360000000000 := by omega
              cases hr : lt.drop K with
              | nil =>
                rw [hr] at hst2
                have htl2 := hst2.list
                rcases Int.lt_or_le 140737488355328 N0 with hf | hf
                · have hfin : Hid (prsT false lt = (0, 4)) := hid (by rw [prsT_end hok.out (by rw [HK.out, hr]), HK.out, HV.out, HN0.out]; unfold fin; rw [if_pos hf])
                  go_wp2_with fail
                  refine bodyPost_ret (v := .tuple #[.int .i64 0, .int .i64 4]) (by simp [results, Tryd.results4, go_sem]) rfl ?_
                  exact ⟨by rw [HRES.out, hfin.out], Below.refl _ _⟩
                · have hf' : ¬ (140737488355328 < N0) := by omega
                  have hfin : Hid (prsT false lt = (if false then -N0 else N0, 0)) := hid (by rw [prsT_end hok.out (by rw [HK.out, hr]), HK.out, HV.out, HN0.out]; unfold fin; rw [if_neg hf'])
                  have HS := hid (fun w => saturated_any false N0 (by omega) hf w)
                  obtain ⟨SV, hSV⟩ : ∃ SV, SV = (if false then -N0 else N0) := ⟨_, rfl⟩
                  rw [← hSV] at HS hfin
                  clear hSV
                  go_wp2_with (first | (go_at_call 10; (with_reducible refine (HS.out _).mono ?_); rintro e w5 ⟨rfl, rfl⟩))
                  refine bodyPost_ret (v := .tuple #[.int .i64 SV, .int .i64 0]) (by simp [results, Tryd.results4, go_sem]) rfl ?_
                  exact ⟨by rw [HRES.out, hfin.out], Below.refl _ _⟩
              | cons c r =>
                rw [hr] at hst2
                have htl2 := hst2.list
                have hz2 := hst2.size
                obtain ⟨M, hM⟩ : ∃ M, M = (c :: r).length := ⟨_, rfl⟩
                have hMr : r.length + 1 = M := by rw [hM]; simp
                have hMT : M ≤ lt.length := by have := congrArg List.length hr; rw [List.length_drop] at this; rw [hM]; omega
                rw [← hM] at hz2
                have hM1 : (1 : Int) ≤ (M : Int) := by omega
                have hMI : (M : Int) ≤ 140737488355328 := by omega
                obtain ⟨s3, hs3⟩ : ∃ s3, s3 = s2.extract 1 M := ⟨_, rfl⟩
                have hst3 : Str s3 r := by rw [hs3, hM]; exact hst2.from 1
                have hs3' := hs3.symm
                have h2s : 0 < s2.size := by omega
                obtain ⟨C, hC⟩ : ∃ C, C = c.toNat := ⟨_, rfl⟩
                have hg2 : (s2[0]'h2s).toNat = C := by rw [hst2.get 0 (by simp) h2s, hC]; rfl
                have HN3 := hid (fun w => number_s s3 r hst3.size (hid (fun i h h' => hst3.get i h h')) (by omega) w)
                have hml := runN_le r
                have HRD := hid (take_digits r)
                generalize hm : runN r = m at *
                have HM := hid hm
                clear hm hs3 hM hst3 hst2
                have hmI0 : (0 : Int) ≤ (m : Int) := by omega
                have hmI1 : (m : Int) ≤ 140737488355328 := by omega
                by_cases hok2 : C ≠ 46 ∨ m < 1 ∨ 5 < m ∨ m ≠ r.length
                · have hbad : prsT false lt = (0, 2) := prsT_bad2 hok.out (by rw [HK.out, hr]) (by rw [HM.out, ← hC]; exact hok2)
                  clear hC
                  generalize valF 0 (r.take (min m 12)) = VV at *
                  by_cases g1 : C = 46
                  · subst g1
                    by_cases g2 : m < 1
                    · have g2I : (m : Int) < 1 := by omega
                      go_wp2_with (first | (go_at_call 9; (with_reducible refine (HN3.out _).mono ?_); rintro e w2 ⟨rfl, rfl⟩))
                      refine bodyPost_ret (v := .tuple #[.int .i64 0, .int .i64 2]) (by simp [results, Tryd.results4, go_sem]) rfl ?_
                      exact ⟨by rw [HRES.out, hbad], Below.refl _ _⟩
                    · have g2I : ¬ ((m : Int) < 1) := by omega
                      by_cases g3 : 5 < m
                      · have g3I : (5 : Int) < (m : Int) := by omega
                        go_wp2_with (first | (go_at_call 9; (with_reducible refine (HN3.out _).mono ?_); rintro e w2 ⟨rfl, rfl⟩))
                        refine bodyPost_ret (v := .tuple #[.int .i64 0, .int .i64 2]) (by simp [results, Tryd.results4, go_sem]) rfl ?_
                        exact ⟨by rw [HRES.out, hbad], Below.refl _ _⟩
                      · have g3I : ¬ ((5 : Int) < (m : Int)) := by omega
                        have g4 : ((m : Int) != (M : Int) - 1) = true := by simp; omega
                        have g5 : ¬ ((m : Int) = (M : Int) - 1) := by omega
                        go_wp2_with (first | (go_at_call 9; (with_reducible refine (HN3.out _).mono ?_); rintro e w2 ⟨rfl, rfl⟩))
                        refine bodyPost_ret (v := .tuple #[.int .i64 0, .int .i64 2]) (by simp [results, Tryd.results4, go_sem]) rfl ?_
                        exact ⟨by rw [HRES.out, hbad], Below.refl _ _⟩
                  · have g1K : ((C : Int) != 46) = true := by simp; omega
                    go_wp2_with (first | (go_at_call 9; (with_reducible refine (HN3.out _).mono ?_); rintro e w2 ⟨rfl, rfl⟩))
                    refine bodyPost_ret (v := .tuple #[.int .i64 0, .int .i64 2]) (by simp [results, Tryd.results4, go_sem]) rfl ?_
                    exact ⟨by rw [HRES.out, hbad], Below.refl _ _⟩
                · skip
                  have g1 : C = 46 := by omega
                  have g2 : 1 ≤ m := by omega
                  have g3 : m ≤ 5 := by omega
                  have g4 : m = r.length := by omega
                  have hok2' : Hid (¬ (c.toNat ≠ 46 ∨ runN r < 1 ∨ 5 < runN r ∨ runN r ≠ r.length)) := hid (by rw [HM.out, ← hC]; exact hok2)
                  clear hok2
                  rw [show min m 12 = m from by omega] at HN3
                  have hrr : r.take m = r := by rw [g4]; exact List.take_of_length_le (Nat.le_refl _)
                  rw [hrr] at HN3 HRD
                  have hP := valF_range r 0 1 (by omega) (by omega) HRD.out
                  have hPp := p10' r.length 5 (by omega) 100000 (by decide)
                  obtain ⟨T, hT⟩ : ∃ T, T = (10 : Int) ^ m := ⟨_, rfl⟩
                  have t1 := p10' 1 m g2 T hT.symm
                  have t2 := p10' m 5 g3 100000 (by decide)
                  have HT' := hid hT
                  rw [← hT] at t2
                  rw [← g4, ← hT] at hPp
                  rw [← g4, ← hT] at hP
                  have t3 : (10 : Int) ≤ T := by simpa using t1
                  clear t1
                  have hc := HT.out.2 m (by omega)
                  rw [← hT] at hc
                  clear hT
                  have hw0 := HT.out.1
                  have K5 : ∀ z : Later w, z.val.cell? ⟨0, m, none⟩ = some (.int .u64 T) := fun z => (z.cell hw0).trans hc
                  generalize hPe : valF 0 r = P at *
                  have HP := hid hPe
                  obtain ⟨p1, p2⟩ := hP
                  have p3 : P < 100000 := by omega
                  clear hPe p2 hPp hrr
                  subst g1
                  have g2I : ¬ ((m : Int) < 1) := by omega
                  have g3I : ¬ ((5 : Int) < (m : Int)) := by omega
                  have g4' : ((m : Int) != (M : Int) - 1) = false := by simp; omega
                  have hMm : (M : Int) = (m : Int) + 1 := by omega
                  clear g4
                  have hm6 : (m : Int) < 6 := by omega
                  have hm6' : m < 6 := by omega
                  clear hC
                  have t4 : 0 ≤ T / 2 := by omega
                  have t5 : T / 2 < 100000 := by omega
                  have u1 : 0 ≤ (P * 65536 + T / 2) / T := Int.ediv_nonneg (by omega) (by omega)
                  have u2 : (P * 65536 + T / 2) / T ≤ P * 65536 + T / 2 := Int.ediv_le_self _ (by omega)
                  have u2' : (P * 65536 + T / 2) / T ≤ 6553700000 := by omega
                  have u3 : ¬ (T = 0) := by omega
                  have u4 : (T == 0) = false := by simp; omega
                  clear u2
                  go_upto_region 15 with (first | (go_at_call 9; (with_reducible refine (HN3.out _).mono ?_); rintro e w2 ⟨rfl, rfl⟩))
                  refine wp_region_later (w0 := w) (Below.refl _ _) (by kernel_rfl) (by kernel_rfl) ?_
                  repeat (go_big_quiet_step (fail))
                  refine wpQuiet_nil ?_
                  intro _ hw'
                  obtain ⟨y, hw''⟩ := hw'
                  subst hw''
                  have hyb := y.ok
                  generalize hF : (P * 65536 + T / 2) / T = F at *
                  have HF := hid hF
                  clear hF t4 t5
                  rcases Int.lt_or_le 140737488355328 (N0 + F) with hf | hf
                  · have hfin : Hid (prsT false lt = (0, 4)) := hid (by rw [prsT_part hok.out (by rw [HK.out, hr]) hok2'.out, HK.out, HV.out, HN0.out, HM.out, HP.out, ← HT'.out, HF.out]; unfold fin; rw [if_pos hf])
                    go_wp2_with fail
                    refine bodyPost_ret (v := .tuple #[.int .i64 0, .int .i64 4]) (by simp [results, Tryd.results4, go_sem]) rfl ?_
                    exact ⟨by rw [HRES.out, hfin.out], hyb⟩
                  · have hf' : ¬ (140737488355328 < N0 + F) := by omega
                    have hfin : Hid (prsT false lt = (if false then -(N0 + F) else N0 + F, 0)) := hid (by rw [prsT_part hok.out (by rw [HK.out, hr]) hok2'.out, HK.out, HV.out, HN0.out, HM.out, HP.out, ← HT'.out, HF.out]; unfold fin; rw [if_neg hf'])
                    have HS := hid (fun w => saturated_any false (N0 + F) (by omega) hf w)
                    obtain ⟨SV, hSV⟩ : ∃ SV, SV = (if false then -(N0 + F) else N0 + F) := ⟨_, rfl⟩
                    rw [← hSV] at HS hfin
                    clear hSV
                    go_wp2_with (first | (go_at_call 10; (with_reducible refine (HS.out _).mono ?_); rintro e w5 ⟨rfl, rfl⟩))
                    refine bodyPost_ret (v := .tuple #[.int .i64 SV, .int .i64 0]) (by simp [results, Tryd.results4, go_sem]) rfl ?_
                    exact ⟨by rw [HRES.out, hfin.out], hyb⟩
end Go.Proofs.YteinfhfapelegaaDoor
