/- Walks: magnitude, digits. -/
import Derived.Test.YteinfhfapelegaaDoorXb
import Derived.Laws.BytesString
import Derived.Test.YteinfhfapelegaaDoorFresh
namespace Go.Proofs.YteinfhfapelegaaDoor
open Go.RowKit
set_option linter.unusedVariables false
set_option linter.unusedSimpArgs false
theorem wneg {a : Int} (h0 : -9223372036854775808 ≤ a) (h : a < 0) : IntKind.u64.wrap (-IntKind.u64.wrap a) = -a := by
  simp [IntKind.wrap, IntKind.bits, IntKind.signed]
  omega
theorem magnitude_any (a : Int) (h0 : -9223372036854775808 ≤ a) (h1 : a ≤ 9223372036854775807) (w : World) : Calls Tryd.prog 14 #[.int .i64 a] w fun e w' => e = .returned (.int .u64 (if a < 0 then -a else a)) ∧ w = w' := by
  rcases Int.lt_or_le a 0 with h | h
  · rw [if_pos h]
    go_enter Tryd.func14, Tryd.ntmps14
    go_wp2_with fail
    go_ret
    exact ⟨by rw [wneg h0 h]; rfl, rfl⟩
  · rw [if_neg (by omega)]
    go_enter Tryd.func14, Tryd.ntmps14
    go_wp2_with fail
    go_ret
    exact ⟨by go_num, rfl⟩
theorem rmagnitude_any (a : Int) (h0 : -9223372036854775808 ≤ a) (h1 : a ≤ 9223372036854775807) (w : World) : Calls Tryd.prog 16 #[.int .i64 a] w fun e w' => e = .returned (.int .u64 (if a < 0 then -a else a)) ∧ w = w' := by
  rcases Int.lt_or_le a 0 with h | h
  · rw [if_pos h]
    go_enter Tryd.func16, Tryd.ntmps16
    go_wp2_with fail
    go_ret
    exact ⟨by rw [wneg h0 h]; rfl, rfl⟩
  · rw [if_neg (by omega)]
    go_enter Tryd.func16, Tryd.ntmps16
    go_wp2_with fail
    go_ret
    exact ⟨by go_num, rfl⟩
theorem set_frz (w : World) (a p : Addr) (u : Value) : (w.setCell a u).frozen? p = w.frozen? p := by simp [go_sem]
theorem set_size (w : World) (p : Addr) (u : Value) : (w.setCell p u).heap.size = w.heap.size := by simp [World.setCell]
theorem cell_far {w : World} {g i j : Nat} {u : Value} (h : i ≠ j) : (w.setCell ⟨g, i, none⟩ u).cell? ⟨g, j, none⟩ = w.cell? ⟨g, j, none⟩ := by
  have h' : ¬ (j = i) := fun e => h e.symm
  simp [go_sem, h, h']
theorem push_bs (l : List Int) : l.foldl (fun (r : ByteArray) n => r.push (UInt8.ofNat n.toNat)) ByteArray.empty = bs (l.map fun x => UInt8.ofNat x.toNat) := by
  have key : ∀ (l : List Int) (r : List UInt8), l.foldl (fun (r : ByteArray) n => r.push (UInt8.ofNat n.toNat)) (bs r) = bs (r ++ l.map fun x => UInt8.ofNat x.toNat) := by
    intro l
    induction l with
    | nil => intro r; simp
    | cons a l ih =>
      intro r
      have e : (bs r).push (UInt8.ofNat a.toNat) = bs (r ++ [UInt8.ofNat a.toNat]) := by simp [bs, ByteArray.push]
      rw [List.foldl_cons, e, ih, List.map_cons, List.append_assoc]
      rfl
  have h := key l []
  rw [List.nil_append] at h
  exact h
/-- the digits of a number ahead of others, at least so many -/
def dgs (least : Nat) : Nat → Int → List Int → List Int
  | 0, _, acc => acc
  | f + 1, n, acc => if 0 < n ∨ acc.length < least then dgs least f (n / 10) ((48 + n % 10) :: acc) else acc
/-- a number has at most so many digits -/
theorem dgs_len (least : Nat) : ∀ (f : Nat) (n : Int) (acc : List Int), (dgs least f n acc).length ≤ acc.length + f
  | 0, n, acc => Nat.le_refl _
  | f + 1, n, acc => by
    unfold dgs
    split
    · have := dgs_len least f (n / 10) ((48 + n % 10) :: acc)
      simp only [List.length_cons] at this
      omega
    · omega
set_option maxHeartbeats 8000000 in
set_option maxRecDepth 100000 in
theorem digits_any (n : Int) (least : Nat) (h0 : 0 ≤ n) (h1 : n < 18446744073709551616) (hle0 : 1 ≤ least) (hle : least ≤ 5) (w : World) : Calls Tryd.prog 15 #[.int .u64 n, .int .i64 least] w fun e w' => ∃ s, e = .returned (.string s) ∧ s = bs ((dgs least 24 n []).map fun x => UInt8.ofNat x.toNat) ∧ Below w.heap.size w w' := by
  have hleI : (least : Int) ≤ 5 := by omega
  have hleI0 : (0 : Int) ≤ (least : Int) := by omega
  go_enter Tryd.func15, Tryd.ntmps15
  go_upto_region 3 with fail
  obtain ⟨w1, hw1⟩ : ∃ w1, w1 = w.alloc (.cells #[.int .u8 0, .int .u8 0, .int .u8 0, .int .u8 0, .int .u8 0, .int .u8 0, .int .u8 0, .int .u8 0, .int .u8 0, .int .u8 0, .int .u8 0, .int .u8 0, .int .u8 0, .int .u8 0, .int .u8 0, .int .u8 0, .int .u8 0, .int .u8 0, .int .u8 0, .int .u8 0, .int .u8 0, .int .u8 0, .int .u8 0, .int .u8 0] 45) := ⟨_, rfl⟩
  have hb1 : Below w.heap.size w w1 := by rw [hw1]; exact (Below.refl _ _).alloc (Nat.le_refl _) _
  have hlt1 : w.heap.size < w1.heap.size := by rw [hw1]; simp
  have hc1 : ∀ j, j < 24 → (∃ v, w1.cell? ⟨w.heap.size, j, none⟩ = some v) ∧ w1.frozen? ⟨w.heap.size, j, none⟩ = false := fun j hj => by
    have hb : w1.heap[w.heap.size]? = some (.cells #[.int .u8 0, .int .u8 0, .int .u8 0, .int .u8 0, .int .u8 0, .int .u8 0, .int .u8 0, .int .u8 0, .int .u8 0, .int .u8 0, .int .u8 0, .int .u8 0, .int .u8 0, .int .u8 0, .int .u8 0, .int .u8 0, .int .u8 0, .int .u8 0, .int .u8 0, .int .u8 0, .int .u8 0, .int .u8 0, .int .u8 0, .int .u8 0] 45 (0, 0)) := by rw [hw1]; exact heap_alloc_new w _
    obtain ⟨c1, f1⟩ := block_cells hb
    exact ⟨⟨_, (c1 j).trans (by rw [List.getElem?_toArray]; exact List.getElem?_eq_getElem (by simpa using hj))⟩, f1 j⟩
  rw [← hw1]
  clear hw1
  have hp24 : n < 10 ^ 24 := by have : (10 : Int) ^ 24 = 1000000000000000000000000 := by decide
                                omega
  have HC1 := hid hc1
  clear hc1
  go_loopw [0, 6] (fun s0 s6 wr => ∃ (f : Nat) (m : Int) (acc : List Int), s0 = .int .u64 m ∧ s6 = .int .i64 f ∧ acc.length + f = 24 ∧ 0 ≤ m ∧ m < 18446744073709551616 ∧ Hid (m < 10 ^ f) ∧ Hid (dgs least f m acc = dgs least 24 n []) ∧ Hid (∀ j, j < 24 → (∃ v, wr.cell? ⟨w.heap.size, j, none⟩ = some v) ∧ wr.frozen? ⟨w.heap.size, j, none⟩ = false) ∧ Hid (∀ j u, acc[j]? = some u → wr.cell? ⟨w.heap.size, f + j, none⟩ = some (.int .u8 u) ∧ 0 ≤ u ∧ u ≤ 255) ∧ w.heap.size < wr.heap.size ∧ Below w.heap.size w wr) (fun _ s6 _ => (intOf s6).toNat)
  case atStart => exact ⟨24, n, [], rfl, rfl, rfl, h0, h1, hid hp24, hid rfl, HC1, hid (fun j u e => by simp at e), hlt1, hb1⟩
  case round =>
    clear HC1 hlt1 hb1 hp24
    obtain ⟨f, m, acc, rfl, rfl, hf, hm0, hm1, HP, HD, HC, HA, hlt, hb⟩ := hrel
    have hfI : (acc.length : Int) + (f : Int) = 24 := by omega
    have hfI0 : (0 : Int) ≤ (f : Int) := by omega
    have hfI1 : (f : Int) ≤ 24 := by omega
    have hgo : ∀ (hgo : 0 < m ∨ acc.length < least), ∃ f', f = f' + 1 := fun hgo => by
      cases f with
      | zero =>
        have := HP.out
        simp at this
        rcases hgo with h | h <;> omega
      | succ f => exact ⟨f, rfl⟩
    by_cases hg : 0 < m ∨ acc.length < least
    · obtain ⟨f', rfl⟩ := hgo hg
      have HD2 : Hid (dgs least f' (m / 10) ((48 + m % 10) :: acc) = dgs least 24 n []) := hid (by have := HD.out; unfold dgs at this; rw [if_pos hg] at this; exact this)
      obtain ⟨⟨v, cv⟩, fv⟩ := HC.out f' (by omega)
      have hq1 : 0 ≤ m % 10 := by omega
      have hq2 : m % 10 ≤ 9 := by omega
      have HP2 : Hid (m / 10 < 10 ^ f') := hid (by have := HP.out; rw [Int.pow_succ] at this; omega)
      have e1 : ((f' + 1 : Nat) : Int) = (f' : Int) + 1 := by omega
      rw [e1] at hfI hfI0 hfI1 ⊢
      clear e1 hgo
      have hfp : (0 : Int) ≤ (f' : Int) := by omega
      have hfp2 : (f' : Int) < 24 := by omega
      have hcg : (decide (0 < m) = true) ∨ (decide (0 < m) = false ∧ (24 - ((f' : Int) + 1) < (least : Int))) := by
        by_cases h : 0 < m
        · exact Or.inl (decide_eq_true h)
        · exact Or.inr ⟨decide_eq_false h, by omega⟩
      have hsub : 24 - ((f' : Int) + 1) = (acc.length : Int) := by omega
      rcases hcg with hcg | ⟨hcg, hcg2⟩
      · have hcg' : 0 < m := of_decide_eq_true hcg
        clear hcg hg
        go_wp2_with fail
        go_roundw
        case rel => exact ⟨f', m / 10, (48 + m % 10) :: acc, by go_num, by go_num, by simp; omega, by omega, by omega, HP2, HD2, hid (fun j hj => by
          obtain ⟨⟨u, cu⟩, fu⟩ := HC.out j hj
          refine ⟨?_, (set_frz _ _ _ _).trans fu⟩
          by_cases e : j = f'
          · subst e; exact ⟨.int .u8 (48 + m % 10), by go_simp⟩
          · exact ⟨u, by rw [cell_far (fun h => e h.symm)]; exact cu⟩), hid (fun j u e => by
          cases j with
          | zero => 
            have e' : some (48 + m % 10) = some u := e
            injection e' with e'
            subst e'
            exact ⟨by rw [Nat.add_zero]; go_simp, by omega, by omega⟩
          | succ j =>
            obtain ⟨k1, k2, k3⟩ := HA.out j u e
            exact ⟨by rw [cell_far (by omega), show f' + (j + 1) = f' + 1 + j from by omega]; exact k1, k2, k3⟩), by rw [set_size]; exact hlt, hb.setCell (Nat.le_refl _) _⟩
        case measure => first | (simp [intOf]; done) | (simp [intOf]; omega)
      · have hcg' : ¬ (0 < m) := of_decide_eq_false hcg
        clear hcg hg
        go_wp2_with fail
        go_roundw
        case rel => exact ⟨f', m / 10, (48 + m % 10) :: acc, by go_num, by go_num, by simp; omega, by omega, by omega, HP2, HD2, hid (fun j hj => by
          obtain ⟨⟨u, cu⟩, fu⟩ := HC.out j hj
          refine ⟨?_, (set_frz _ _ _ _).trans fu⟩
          by_cases e : j = f'
          · subst e; exact ⟨.int .u8 (48 + m % 10), by go_simp⟩
          · exact ⟨u, by rw [cell_far (fun h => e h.symm)]; exact cu⟩), hid (fun j u e => by
          cases j with
          | zero => 
            have e' : some (48 + m % 10) = some u := e
            injection e' with e'
            subst e'
            exact ⟨by rw [Nat.add_zero]; go_simp, by omega, by omega⟩
          | succ j =>
            obtain ⟨k1, k2, k3⟩ := HA.out j u e
            exact ⟨by rw [cell_far (by omega), show f' + (j + 1) = f' + 1 + j from by omega]; exact k1, k2, k3⟩), by rw [set_size]; exact hlt, hb.setCell (Nat.le_refl _) _⟩
        case measure => first | (simp [intOf]; done) | (simp [intOf]; omega)
    · have hm : m = 0 := by omega
      subst hm
      have hal : least ≤ acc.length := by omega
      have hacc : acc = dgs least 24 n [] := by
        have := HD.out
        cases f with
        | zero => exact this
        | succ f => unfold dgs at this; rwa [if_neg hg] at this
      clear hgo hg HD HP
      have hn1 : ¬ ((0 : Int) < 0) := by omega
      have hn3 : ¬ (24 = f) := by omega
      have hn2 : ¬ (24 - (f : Int) < (least : Int)) := by omega
      have hconv : ∀ c, (convert 46 9 (.slice (some ⟨w.heap.size, f, none⟩) (24 - f) c)).run Tryd.prog wr = .ok (.string (bs (acc.map fun x => UInt8.ofNat x.toNat))) wr := fun c => by
        rw [run_convert_bytes_string wr 46 9 5 _ _ _ Tryd.underlying46 Tryd.underlying5 Tryd.underlying9, run_bytesToString wr ⟨w.heap.size, f, none⟩ (24 - f) c acc ?_]
        · rw [push_bs]
        · have := run_loadCells_list (w := wr) (P := Tryd.prog) ⟨w.heap.size, f, none⟩ (acc.map (Value.int .u8)) (fun j v e => by
            rw [List.getElem?_map] at e
            cases ha : acc[j]? with
            | none => rw [ha] at e; cases e
            | some u => rw [ha] at e; injection e with e; subst e; rw [Addr.add_lit]; exact (HA.out j u ha).1)
          simpa [show 24 - f = acc.length from by omega] using this
      go_wp2_with fail
      go_ret
      exact ⟨_, rfl, rfl, hb⟩
end Go.Proofs.YteinfhfapelegaaDoor
