/- slices.Equal and slices.Clone over ints. -/
import Derived.Test.YtmgkkbmcdnhdeabDoorCells
import Derived.Laws.OwnMore
namespace Go.Proofs.YtmgkkbmcdnhdeabDoor
open Go.RowKit
set_option linter.unusedSimpArgs false
set_option linter.unusedVariables false

theorem take_eq_step {l m : List Int} {k : Nat} (hl : k < l.length) (hm : k < m.length) (h : l.take k = m.take k) (he : l.getD k 0 = m.getD k 0) : l.take (k + 1) = m.take (k + 1) := by
  rw [List.take_add_one, List.take_add_one, h, List.getElem?_eq_getElem hl, List.getElem?_eq_getElem hm]
  simp [List.getD, List.getElem?_eq_getElem hl, List.getElem?_eq_getElem hm] at he
  rw [he]
theorem ne_at {l m : List Int} {k : Nat} (he : l.getD k 0 ≠ m.getD k 0) : l ≠ m := fun h => he (by rw [h])


























































































end Go.Proofs.YtmgkkbmcdnhdeabDoor
