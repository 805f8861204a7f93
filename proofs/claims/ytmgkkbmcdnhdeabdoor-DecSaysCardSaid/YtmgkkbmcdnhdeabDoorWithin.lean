/- The reference's within. -/
import Derived.Test.YtmgkkbmcdnhdeabDoorBase
namespace Go.Proofs.YtmgkkbmcdnhdeabDoor
open Go.RowKit
set_option linter.unusedSimpArgs false
set_option linter.unusedVariables false








end Go.Proofs.YtmgkkbmcdnhdeabDoor
