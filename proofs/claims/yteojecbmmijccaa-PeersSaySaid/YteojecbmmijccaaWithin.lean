/- The reference's within. -/
import Derived.Test.YteojecbmmijccaaBase
namespace Go.Proofs.Yteojecbmmijccaa
open Go.RowKit
set_option linter.unusedSimpArgs false
set_option linter.unusedVariables false

theorem within_any (x a b : Int) (w : World) :
    Calls Try.prog 23 #[.int .i64 x, .int .i64 a, .int .i64 b] w fun e w' => e = .returned (.bool (wi x a b)) ∧ w = w' := by
  unfold wi
  go_enter Try.func23, Try.ntmps23
  go_wp2
  all_goals (go_ret; simp [*] <;> omega)

end Go.Proofs.Yteojecbmmijccaa
