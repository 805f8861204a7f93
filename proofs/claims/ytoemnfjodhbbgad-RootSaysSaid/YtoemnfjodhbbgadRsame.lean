/- same, told of a number. -/
import Derived.Test.YtoemnfjodhbbgadRc
import Derived.Test.YtoemnfjodhbbgadW0
namespace Go.Proofs.Ytoemnfjodhbbgad
open Go.RowKit
set_option linter.unusedSimpArgs false
set_option linter.unusedVariables false

/-- 'same' says yes to what is answered of the number. -/
theorem same_fit (A : Option Addr) (l : List Bool) (c : Nat) (n : Nat) (hn : Bt.val l = n) (w : World) (h : Reads w w.heap.size 1 A l.length (l.map Value.bool)) (h1 : l.length ≤ 1000000) :
    Calls Try.prog 11 #[.agg #[.int .u64 (hiN (fitN n)), .int .u64 (loN (fitN n))], .int .i64 (fitE n), .slice A l.length c] w fun e w' => e = .returned (.bool true) ∧ Below w.heap.size w w' := by
  subst hn
  unfold fitN fitE
  by_cases hv : Bt.val l < 2 ^ 128
  · rw [if_pos hv, if_pos hv]; exact same_ok A l c w h h1 hv
  · rw [if_neg hv, if_neg hv]; exact same_large A l c w h h1 (by omega)

theorem same_is (A : Option Addr) (l : List Bool) (c : Nat) (n : Nat) (hn : Bt.val l = n) (hv : n < 2 ^ 128) (w : World) (h : Reads w w.heap.size 1 A l.length (l.map Value.bool)) (h1 : l.length ≤ 1000000) :
    Calls Try.prog 11 #[.agg #[.int .u64 (hiN n), .int .u64 (loN n)], .int .i64 0, .slice A l.length c] w fun e w' => e = .returned (.bool true) ∧ Below w.heap.size w w' := by
  subst hn; exact same_ok A l c w h h1 hv

theorem same_told (A : Option Addr) (l : List Bool) (c : Nat) (n fn : Nat) (fe : Int) (hn : Bt.val l = n) (h2 : fitN n = fn) (h3 : fitE n = fe) (w : World) (h : Reads w w.heap.size 1 A l.length (l.map Value.bool)) (h1 : l.length ≤ 1000000) :
    Calls Try.prog 11 #[.agg #[.int .u64 (hiN fn), .int .u64 (loN fn)], .int .i64 fe, .slice A l.length c] w fun e w' => e = .returned (.bool true) ∧ Below w.heap.size w w' := by
  subst h2 h3; exact same_fit A l c n hn w h h1

end Go.Proofs.Ytoemnfjodhbbgad
