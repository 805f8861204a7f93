/- What the walks of this seat import; the two words of a number. -/
import Derived.Test.YteojecbmmijccaaKit
import Derived.Test.YteojecbmmijccaaBits
import Derived.RegionTactic
import Derived.ChangeAlike
import Derived.BigQuiet
import Derived.Deep.QuietTactic
import Derived.WalkSpells
import Derived.WalkLawsBesides
import Derived.Outline
import Derived.LoopTactic
import Derived.Deep.RegionHeld3
namespace Go.Proofs.Yteojecbmmijccaa
open Go.RowKit
set_option linter.unusedSimpArgs false
set_option linter.unusedVariables false

/-- the slots of a Wide of the number n -/
def hiN (n : Nat) : Int := ((n / 18446744073709551616 : Nat) : Int)
def loN (n : Nat) : Int := ((n % 18446744073709551616 : Nat) : Int)

theorem hiN_half (m : Nat) : hiN m / 2 = hiN (m / 2) := by unfold hiN; omega
theorem loN_half (m : Nat) : loN m / 2 + hiN m % 2 * 9223372036854775808 = loN (m / 2) := by unfold hiN loN; omega
theorem loN_odd (m : Nat) : (loN m % 2 == 1) = (m % 2 == 1) := by
  rw [Bool.eq_iff_iff, beq_iff_eq, beq_iff_eq]; unfold loN; omega
theorem zero_of_words {m : Nat} (h : hiN m = 0) (h' : loN m = 0) : m = 0 := by unfold hiN at h; unfold loN at h'; omega
theorem hiN_bd (m : Nat) (h : m < 2 ^ 128) : 0 ≤ hiN m ∧ hiN m ≤ 18446744073709551615 := by unfold hiN; omega
theorem loN_bd (m : Nat) : 0 ≤ loN m ∧ loN m ≤ 18446744073709551615 := by unfold loN; omega

end Go.Proofs.Yteojecbmmijccaa
