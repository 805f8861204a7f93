/- The reference's within. -/
import Derived.Test.YtmgkkbmcdnhdeaeBase
namespace Go.Proofs.Ytmgkkbmcdnhdeae
open Go.RowKit
set_option linter.unusedSimpArgs false
set_option linter.unusedVariables false








end Go.Proofs.Ytmgkkbmcdnhdeae
