/- How many bits: the library's count and ours. -/
import Derived.Test.YtmgkkbmcdnhdeabDoorBase
import Derived.Test.YtmgkkbmcdnhdeabDoorShelf
namespace Go.Proofs.YtmgkkbmcdnhdeabDoor
open Go.RowKit
set_option linter.unusedSimpArgs false
set_option linter.unusedVariables false

theorem bitLenAux_blen : ∀ (f n : Nat), n < 2 ^ f → Lib.bitLenAux f n = Bt.blen n
  | 0, n, h => by
    have : n = 0 := by simpa using h
    subst this; simp [Lib.bitLenAux, Bt.blen_zero]
  | f + 1, n, h => by
    rcases Nat.eq_zero_or_pos n with rfl | hp
    · simp [Lib.bitLenAux, Bt.blen_zero]
    · rw [Lib.bitLenAux, if_neg (by omega), bitLenAux_blen f (n / 2) (by rw [Nat.pow_succ] at h; omega), Bt.blen_pos n hp, Nat.add_comm]

theorem bitLen_blen (n : Nat) (h : n < 2 ^ 64) : Lib.bitLen n = Bt.blen n := bitLenAux_blen 64 n h

end Go.Proofs.YtmgkkbmcdnhdeabDoor
