/- The reference's SameWin. -/
import Derived.Test.YteojecbmmijccaaEqInts
import Derived.Test.YteojecbmmijccaaWin
namespace Go.Proofs.Yteojecbmmijccaa
open Go.RowKit
set_option linter.unusedSimpArgs false
set_option linter.unusedVariables false

set_option maxHeartbeats 1000000 in
theorem swin_yes (cap : Int) (A A' : Option Addr) (c c' B n m : Nat) (l : List Int) (hn : l.length = n) (hm : l.length = m) (h64 : n ≤ 100000) (w : World) (hr : Reads w B 1 A n (cellsI l)) (hr' : Reads w B 1 A' m (cellsI l)) (hB : B ≤ w.heap.size) :
    Calls Try.prog 40 #[.agg #[.int .i64 cap, .slice A n c], .agg #[.int .i64 cap, .slice A' m c']] w fun e' w' => e' = .returned (.bool true) ∧ Below w.heap.size w w' := by
  have HN := Lib.hid hn
  have HM := Lib.hid hm
  have h64' : m ≤ 100000 := by omega
  have HR := Lib.hid ((hr.alloc hB (.cells #[.int .i64 cap, .slice A n c] 32)).alloc (by simp; omega) (.cells #[.int .i64 cap, .slice A' m c'] 32))
  have HR' := Lib.hid ((hr'.alloc hB (.cells #[.int .i64 cap, .slice A n c] 32)).alloc (by simp; omega) (.cells #[.int .i64 cap, .slice A' m c'] 32))
  have E := Lib.hid (((Env.start w).lay #[.int .i64 cap, .slice A n c] 32).lay #[.int .i64 cap, .slice A' m c'] 32)
  clear hn hm hr hr' hB
  go_enter Try.func40, Try.ntmps40
  go_wp2_with fail
  refine (eqints_is _ _ _ _ _ n m l l HN.out HM.out true (by simp) h64 h64' _ HR.out HR'.out).mono ?_
  rintro e' w1 ⟨rfl, hb1⟩
  go_wp2
  go_ret
  exact ⟨rfl, (E.out.below hb1).bel⟩
end Go.Proofs.Yteojecbmmijccaa
