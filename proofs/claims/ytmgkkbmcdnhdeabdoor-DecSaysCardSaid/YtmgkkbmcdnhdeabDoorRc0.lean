/- Plain facts on the first bits of a list. -/
import Derived.Test.YtmgkkbmcdnhdeabDoorBits
namespace Go.Proofs.YtmgkkbmcdnhdeabDoor

set_option linter.unusedSimpArgs false
set_option linter.unusedVariables false

theorem take_lt (l : List Bool) (k : Nat) (hk : k ≤ l.length) : Bt.val (l.take k) < 2 ^ k := by
  have := Bt.val_lt (l.take k)
  rwa [List.length_take, Nat.min_eq_left hk] at this

theorem take_true (l : List Bool) (k : Nat) (hk : k < l.length) (h : l[k] = true) : Bt.val (l.take (k + 1)) = Bt.val (l.take k) + 2 ^ k := by
  rw [Bt.val_take_succ, Bt.bit_at l k hk, h]; simp
theorem take_false (l : List Bool) (k : Nat) (hk : k < l.length) (h : l[k] = false) : Bt.val (l.take (k + 1)) = Bt.val (l.take k) := by
  rw [Bt.val_take_succ, Bt.bit_at l k hk, h]; simp
theorem val_take_le (l : List Bool) (k : Nat) (hk : k ≤ l.length) : Bt.val (l.take k) ≤ Bt.val l := by
  have := Bt.val_take_drop l k hk
  have : 0 ≤ 2 ^ k * Bt.val (l.drop k) := Nat.zero_le _
  omega
theorem val_true_ge (l : List Bool) (k : Nat) (hk : k < l.length) (h : l[k] = true) : 2 ^ k ≤ Bt.val l := by
  have := take_true l k hk h
  have := val_take_le l (k + 1) hk
  omega

theorem val_moved (k : Nat) (lb : List Bool) : Bt.val (List.replicate k false ++ lb) = 2 ^ k * Bt.val lb := by
  rw [Bt.val_append, Bt.val_falses]; simp

end Go.Proofs.YtmgkkbmcdnhdeabDoor
