/- A region in the text's own order, walked by the same cheap steps as one that draws: loads of old memory, calls that keep it. -/
import Derived.Test.YtfcianhmfpenhaaBase
namespace Go.Proofs.Ytfcianhmfpenhaa
open Go.RowKit
section
variable {P : Program} {ops : Array Oper} {C : World → Prop}
theorem wpList_of_quiet {Q : Exit → Act → World → Prop} : ∀ (l : List Oper) (a : Act) (w : World), C w → wpQuiet P ops C (fun a' => ∀ w', C w' → Q .normal a' w') l a → wpList P ops Q l a w
  | [], _, w, hw, h => h w hw
  | o :: rest, a, w, hw, h => by
    unfold wpQuiet at h
    unfold wpList
    split
    · rename_i hc
      rw [if_pos hc] at h
      exact .inl (Oper.wp_of_quiet hw (fun a' w' hw' h' => wpList_of_quiet rest a' w' hw' h') h)
    · rename_i hc
      rw [if_neg hc] at h
      exact wpList_of_quiet rest _ w hw h
theorem wp_region_plain_later {id : Nat} {Q : Exit → Act → World → Prop} {a : Act} {w0 w : World} (hb : Below w0.heap.size w0 w) {l : List Oper}
    (h : wpQuiet P l.toArray (fun w' => ∃ y : Later w0, w' = y.val) (fun a' => ∀ w', (∃ y : Later w0, w' = y.val) → Q .normal a' w') l a) : (Code.region id l.toArray false).wp P Q a w :=
  wp_region_lit (wpList_of_quiet l a w ⟨⟨w, hb⟩, rfl⟩ h)
end
end Go.Proofs.Ytfcianhmfpenhaa
