/- New lists of bits. -/
import Derived.Test.YtmgkkbmcdnhdeabDoorBase
namespace Go.Proofs.YtmgkkbmcdnhdeabDoor
open Go.RowKit
set_option linter.unusedSimpArgs false
set_option linter.unusedVariables false

theorem Tryd.info4 : (Tryd.prog.info? 4).map (fun i => (i.zero, i.size, i.bytes)) = some (some (.bool false), 1, 1) := by kernel_rfl

/-- A new list of bits of the call's own, of which p is known. -/
def NewBits (p : List Bool → Prop) (w : World) (e : Ending) (w' : World) : Prop :=
  ∃ A c l, e = .returned (.slice A l.length c) ∧ p l ∧ w'.ownsRow w.heap.size 4 1 (.slice A l.length c) l.length (l.map Value.bool) ∧ Below w.heap.size w w'

end Go.Proofs.YtmgkkbmcdnhdeabDoor
