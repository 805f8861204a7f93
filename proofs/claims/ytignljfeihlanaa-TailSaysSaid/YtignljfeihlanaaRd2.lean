/- Order, told of numbers. -/
import Derived.Test.YtignljfeihlanaaRd
namespace Go.Proofs.Ytignljfeihlanaa
open Go.RowKit
set_option linter.unusedSimpArgs false
set_option linter.unusedVariables false

theorem order_is (A B : Option Addr) (la lb : List Bool) (ca cb D a b : Nat) (w : World) (ha : Reads w D 1 A la.length (la.map Value.bool)) (hb : Reads w D 1 B lb.length (lb.map Value.bool))
    (la1 : la.length ≤ 1000000) (lb1 : lb.length ≤ 1000000) (hva : Bt.val la = a) (hvb : Bt.val lb = b) :
    Calls Try.prog 28 #[.slice A la.length ca, .slice B lb.length cb] w fun e w' => e = .returned (.int .i64 (cmpN a b)) ∧ w = w' := by
  subst hva hvb; exact order_any A B la lb ca cb D w ha hb la1 lb1

end Go.Proofs.Ytignljfeihlanaa
