/- Made lists of bits. -/
import Derived.Test.YtmgkkbmcdnhdeabDoorRa0
namespace Go.Proofs.YtmgkkbmcdnhdeabDoor
open Go.RowKit
set_option linter.unusedSimpArgs false
set_option linter.unusedVariables false

theorem madeBools (n : Nat) : (madeCells #[Value.bool false] n).toList = List.replicate n (Value.bool false) := by
  simp only [madeCells]
  apply List.ext_getElem <;> simp [Nat.mod_one]

theorem oneCell_bools (l : List Bool) : ∀ u ∈ l.map Value.bool, u.oneCell' = true := by
  intro u hu
  obtain ⟨b, _, rfl⟩ := List.mem_map.1 hu
  rfl

end Go.Proofs.YtmgkkbmcdnhdeabDoor
