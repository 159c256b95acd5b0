import Derived.Test.YtanaficinidffaaWd
import Derived.Deep.AppendLies
namespace Go.Proofs.Ytanaficinidffaa
open Go.RowKit

/-- a row of the call's own stays owned under a callee that keeps old memory -/
theorem own_below {w w' : World} {base size n : Nat} {e : TypeId} {v : Value} {xs : List Value} (h : w.ownsRow base e size v n xs) (hb : Below w.heap.size w w') : w'.ownsRow base e size v n xs := by
  obtain ⟨h1, h2⟩ := h
  refine ⟨h1, ?_⟩
  rcases h2 with h2 | ⟨g, cap, cur, hv, hg, hh, r⟩
  · exact Or.inl h2
  · have hlt : g < w.heap.size := by
      rcases Nat.lt_or_ge g w.heap.size with h' | h'
      · exact h'
      · rw [Array.getElem?_eq_none h'] at hh; cases hh
    exact Or.inr ⟨g, cap, cur, hv, hg, by rw [hb.block g hlt]; exact hh, r⟩

theorem info3 : (Try.prog.info? 3).map (fun i => (i.zero, i.size, i.bytes)) = some (some (.int .i64 0), 1, 8) := by kernel_rfl
/-- the first k gaps that the speeds require -/
def tab (s a b h m : Int) (k : Nat) : List Value := (List.range k).map fun j : Nat => .int .i64 (needF (j : Int) s a b h m)
theorem tab_len (s a b h m : Int) (k : Nat) : (tab s a b h m k).length = k := by simp [tab]
theorem tab_succ (s a b h m : Int) (k : Nat) : tab s a b h m (k + 1) = tab s a b h m k ++ [.int .i64 (needF (k : Int) s a b h m)] := by
  simp [tab, List.range_succ]
theorem tab_at (s a b h m : Int) (k j : Nat) (hj : j < k) : (tab s a b h m k)[j]? = some (.int .i64 (needF (j : Int) s a b h m)) := by
  simp [tab, hj]

theorem table_no (s a b h m : Int) (e1 : vld s a b h m = false) (w : World) : Calls Try.prog 24 #[lim s a b h m] w fun e w' => e = .returned (.slice none 0 0) ∧ Below w.heap.size w w' := by
  go_enter Try.func24, Try.ntmps24
  go_wp2_with (go_at_call 26; refine (valid_any _ _ _ _ _ _).mono ?_; rintro e w1 ⟨rfl, hb⟩; obtain ⟨hc, hf⟩ := bcell hb)
  go_ret
  exact ⟨rfl, below_box hb⟩

set_option maxHeartbeats 2000000 in
theorem table_yes (s a b h m : Int) (e1 : vld s a b h m = true) (w : World) : Calls Try.prog 24 #[lim s a b h m] w fun e w' =>
    ∃ v, e = .returned v ∧ w'.ownsRow (w.heap.size + 1) 3 1 v (s.toNat + 1) (tab s a b h m (s.toNat + 1)) ∧ Below w.heap.size w w' := by
  obtain ⟨⟨s1, s2⟩, _, _, _, _⟩ := vld_iff.1 e1
  obtain ⟨i0, hi, hz0, hz1, hz2⟩ := info_parts info3
  go_enter Try.func24, Try.ntmps24
  go_wp2_with (go_at_call 26; refine (valid_any _ _ _ _ _ _).mono ?_; rintro e w1 ⟨rfl, hb⟩; obtain ⟨hc, hf⟩ := bcell hb)
  clear hc hf
  go_loopw [3, 11] (fun t i wr => ∃ k : Nat, (k : Int) ≤ s + 1 ∧ i = .int .i64 k ∧ wr.ownsRow (w.heap.size + 1) 3 1 t k (tab s a b h m k) ∧ Below (w.alloc (.cells #[.int .i64 s, .int .i64 a, .int .i64 b, .int .i64 h, .int .i64 m] 23)).heap.size (w.alloc (.cells #[.int .i64 s, .int .i64 a, .int .i64 b, .int .i64 h, .int .i64 m] 23)) wr) (fun _ i _ => (s + 1 - intOf i).toNat)
  case atStart => exact ⟨0, by omega, rfl, ⟨by simp [tab], .inl ⟨rfl, rfl⟩⟩, hb⟩
  case round =>
    clear hb
    obtain ⟨k, hk, rfl, hown, hb⟩ := hrel
    obtain ⟨hc, hf⟩ := bcell hb
    have hsz : w.heap.size + 1 ≤ wr.heap.size := by have := hb.size; simpa using this
    by_cases hlt : (k : Int) < s + 1
    · go_wp2_with (first
        | (go_at_call 14; refine (need_any _ _ _ _ _ _ _).mono ?_; rintro e w2 ⟨rfl, hb2⟩; have hown2 := own_below hown hb2; have hsz2 : wr.heap.size ≤ w2.heap.size := hb2.size; replace hb := below_then hb hb2)
        | (at_builtin; refine wpList_append_own _ rfl _ _ 33 rfl (w.heap.size + 1) 3 i0 (.int .i64 0) 1 8 Try.underlying33 hi hz0 hz1 hz2 rfl (by decide) _ _ _ rfl (hown2.alloc _) ⟨w2.heap.size, 0, none⟩ 1 1 [.int .i64 (needF (k : Int) s a b h m)] rfl rfl (cell_one_new _ _ _) (by intro u hu; simp at hu; subst hu; rfl) (by unfold maxLen; omega) (by omega) (by simp; omega) ?_
           intro v' w3 hown3 hgrow3 _))
      go_roundw
      case rel => exact ⟨k + 1, by omega, by go_num, by rw [tab_succ]; exact hown3, (hb.alloc hb.size _).grown hgrow3 (by have := hb.size; simp at this ⊢; omega) (fun g hg => by have := (hown2.lt g hg).1; simpa using this)⟩
      case measure => simp [intOf]; omega
    · have e : k = s.toNat + 1 := by omega
      subst e
      go_wp2
      go_ret
      exact ⟨_, rfl, hown, below_box hb⟩

end Go.Proofs.Ytanaficinidffaa
