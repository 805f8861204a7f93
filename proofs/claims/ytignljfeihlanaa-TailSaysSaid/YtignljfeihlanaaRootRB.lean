/- Helpers of the reference's walks over bits. -/
import Derived.Test.YtignljfeihlanaaRootP
import Derived.Test.YtignljfeihlanaaDivB
import Derived.Test.YtignljfeihlanaaRa
import Derived.Test.YtignljfeihlanaaRp
import Derived.Test.YtignljfeihlanaaRd2
import Derived.Test.YtignljfeihlanaaRm
namespace Go.Proofs.Ytignljfeihlanaa
open Go.RowKit
set_option linter.unusedSimpArgs false
set_option linter.unusedVariables false

theorem cmpN_le0 {a b : Nat} (h : a ≤ b) : cmpN a b ≤ 0 := by unfold cmpN; split <;> rename_i h1 <;> first | decide | (rw [if_neg (by omega)]; decide)
theorem cmpN_pos0 {a b : Nat} (h : b < a) : 0 < cmpN a b := by unfold cmpN; rw [if_neg (by omega), if_pos h]; decide
theorem Reads.thru {w W : World} {n : Nat} {A : Option Addr} {xs : List Value} (h : Reads w w.heap.size 1 A n xs) (hb : Below w.heap.size w W) : Reads W W.heap.size 1 A n xs := (h.below hb (Nat.le_refl _)).more hb.size
theorem bits_lo (x : Nat) (hx : x < 18446744073709551616) (w : World) : Calls Try.prog 23 #[.agg #[.int .u64 0, .int .u64 (x : Int)]] w (NewBits (fun l => l = Bt.bits x) w) := by
  have := bits_any x (by omega) w
  rw [show hiN x = 0 by unfold hiN; omega, show loN x = (x : Int) by unfold loN; omega] at this
  exact this

end Go.Proofs.Ytignljfeihlanaa
