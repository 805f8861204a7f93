/- slices.Clone over ints, walked. -/
import Derived.Test.YtmgkkbmcdnhdeabDoorEqI
import Derived.Test.YtmgkkbmcdnhdeabDoorList
import Derived.Laws.OwnMore
namespace Go.Proofs.YtmgkkbmcdnhdeabDoor
open Go.RowKit
set_option linter.unusedSimpArgs false
set_option linter.unusedVariables false

theorem int_info : (Tryd.prog.info? 3).map (fun i => (i.zero, i.size, i.bytes)) = some (some (.int .i64 0), 1, 8) := by kernel_rfl
theorem oneCell_ints (l : List Int) : ∀ u ∈ cellsI l, u.oneCell' = true := by
  intro u hu
  obtain ⟨x, _, rfl⟩ := List.mem_map.1 hu
  rfl
/-- a new list of numbers, in memory of the call's own -/
def NewInts (l : List Int) (w : World) (e : Ending) (w' : World) : Prop := ∃ A c, e = .returned (.slice A l.length c) ∧ w'.ownsRow w.heap.size 3 1 (.slice A l.length c) l.length (cellsI l) ∧ Below w.heap.size w w'








































end Go.Proofs.YtmgkkbmcdnhdeabDoor
