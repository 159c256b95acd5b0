/- Walks: a transition that is allowed; the history. -/
import Derived.Test.YthklehpekglohaaDoorWh
import Derived.Test.YthklehpekglohaaDoorTail
namespace Go.Proofs.YthklehpekglohaaDoor
open Go.RowKit
set_option linter.unusedVariables false
set_option linter.unusedSimpArgs false
theorem do_ok {g h cap : Nat} {s f : Int} {l : List Int} (t : Int) (ok : Bool) (w : World) (hR : Rules w) (m : Mc w g h cap s f l) (he : (nx s t ok).2 = 0) (hl : l.length < 4096) (hf : 0 ≤ f) (hf' : f < 1000000) : Calls Tryd.prog 15 #[.pointer (some ⟨g, 0, none⟩), .int .i64 t, .bool ok] w fun e w' => e = .returned (.int .i64 0) ∧ ∃ h' cap', Mc w' g h' cap' (nx s t ok).1 (if ok then f else f + 1) (l ++ [(nx s t ok).1]) ∧ Bx g h w w' ∧ (h' = h ∨ w.heap.size ≤ h') := by
  cases ok
  · exact do_short_false t w hR m he hl hf hf'
  · exact do_short_true t w hR m he hl hf hf'
set_option maxHeartbeats 4000000 in
theorem history_any {g h cap : Nat} {s f : Int} {l : List Int} (w : World) (m : Mc w g h cap s f l) (hl : l.length ≤ 100000) : Calls Tryd.prog 21 #[.pointer (some ⟨g, 0, none⟩)] w fun e w' => ∃ v, e = .returned v ∧ RdI w' v l ∧ Below w.heap.size w w' := by
  obtain ⟨j0, ji, jz0, jz1, jz2⟩ := info_parts info3
  have c1 := m.c1
  have lt := m.lt
  have HX := hid (rdI_below (m.rd (by unfold maxLen; omega)) ((Below.refl w.heap.size w).alloc (Nat.le_refl _) (.cells #[] 3)))
  clear m
  go_enter Tryd.func21, Tryd.ntmps21
  go_wp2_with (first
    | (at_builtin; refine wpList_append_rd rfl _ _ rfl ji jz0 jz1 jz2 w.heap.size (.slice (some ⟨w.heap.size, 0, none⟩) 0 0) [] (by rfl) (own_none w) (.slice (some ⟨h, 0, none⟩) l.length cap) l (by rfl) HX.out (by simp only [List.length_nil]; omega) (by rw [alloc_size]; omega) ?_
       intro v4 w4 hown4 hgrow4 hat4
       have HG4 := hid hgrow4
       have HO4 := hid hown4
       clear hgrow4 hown4))
  go_ret
  have ho := HO4.out
  rw [List.nil_append] at ho
  exact ⟨_, rfl, rdI_own ho (by unfold maxLen; omega), below_app (Below.refl _ _) HG4.out (fun k e => by have e' : some w.heap.size = some k := e; injection e' with e'; omega)⟩
end Go.Proofs.YthklehpekglohaaDoor
