/- CRC-32: the step by a table and the division bit by bit agree. Plain, no program in sight. -/
import Derived.Laws.BitsAllLaws
namespace Go.Proofs.YthimchhnhhchkaaGreatDoor
namespace Crc
set_option linter.unusedVariables false

def poly : Nat := 3988292384
def st (x : Nat) : Nat := if x % 2 = 1 then (x / 2) ^^^ poly else x / 2
def sts : Nat → Nat → Nat
  | 0, x => x
  | k + 1, x => st (sts k x)

theorem st_lt {x : Nat} (h : x < 2 ^ 32) : st x < 2 ^ 32 := by
  unfold st
  split
  · exact Nat.xor_lt_two_pow (by omega) (by unfold poly; omega)
  · omega
theorem sts_lt {x : Nat} (h : x < 2 ^ 32) : ∀ k, sts k x < 2 ^ 32
  | 0 => h
  | k + 1 => st_lt (sts_lt h k)
theorem st_xor (a b : Nat) : st (a ^^^ b) = st a ^^^ st b := by
  unfold st
  have e : (a ^^^ b) / 2 = a / 2 ^^^ b / 2 := Nat.xor_div_two
  have m := @Nat.xor_mod_two_eq_one a b
  rw [e]
  rcases Nat.mod_two_eq_zero_or_one a with ha | ha <;> rcases Nat.mod_two_eq_zero_or_one b with hb | hb
  · rw [if_neg (show ¬ (a ^^^ b) % 2 = 1 by rw [m]; omega), if_neg (show ¬ a % 2 = 1 by omega), if_neg (show ¬ b % 2 = 1 by omega)]
  · rw [if_pos (show (a ^^^ b) % 2 = 1 by rw [m]; omega), if_neg (show ¬ a % 2 = 1 by omega), if_pos (show b % 2 = 1 by omega), Nat.xor_assoc]
  · rw [if_pos (show (a ^^^ b) % 2 = 1 by rw [m]; omega), if_pos (show a % 2 = 1 by omega), if_neg (show ¬ b % 2 = 1 by omega), Nat.xor_assoc, Nat.xor_assoc, Nat.xor_comm (b / 2)]
  · rw [if_neg (show ¬ (a ^^^ b) % 2 = 1 by rw [m]; omega), if_pos (show a % 2 = 1 by omega), if_pos (show b % 2 = 1 by omega)]
    rw [Nat.xor_comm (b / 2), Nat.xor_assoc, ← Nat.xor_assoc poly, Nat.xor_self, Nat.zero_xor]
theorem sts_xor (a b : Nat) : ∀ k, sts k (a ^^^ b) = sts k a ^^^ sts k b
  | 0 => rfl
  | k + 1 => by simp only [sts]; rw [sts_xor a b k, st_xor]
theorem sts_mul : ∀ (k h : Nat), sts k (2 ^ k * h) = h
  | 0, h => by simp [sts]
  | k + 1, h => by
    have e : 2 ^ (k + 1) * h = 2 ^ k * (2 * h) := by rw [Nat.pow_succ, Nat.mul_assoc]
    simp only [sts]
    rw [e, sts_mul k (2 * h)]
    unfold st
    rw [if_neg (by omega)]
    omega
theorem parts (x : Nat) : x = (2 ^ 8 * (x / 256)) ^^^ (x % 256) := by
  apply Nat.eq_of_testBit_eq
  intro i
  have e : x % 256 = x % 2 ^ 8 := rfl
  have e2 : x / 256 = x / 2 ^ 8 := rfl
  rw [Nat.testBit_xor, e, e2, Nat.testBit_mod_two_pow, Nat.mul_comm, Nat.testBit_mul_two_pow, Nat.testBit_div_two_pow]
  by_cases h : i < 8
  · have h' : ¬ 8 ≤ i := by omega
    simp [h, h']
  · have h' : 8 ≤ i := by omega
    simp [h, h']
theorem sts8 (x : Nat) : sts 8 x = (x / 256) ^^^ sts 8 (x % 256) := by
  conv => lhs; rw [parts x]
  rw [sts_xor, sts_mul]
theorem step8 (c b : Nat) (hb : b < 256) : sts 8 (c ^^^ b) = (c / 256) ^^^ sts 8 ((c % 256) ^^^ b) := by
  rw [sts8]
  have e1 : (c ^^^ b) / 256 = c / 256 := by
    apply Nat.eq_of_testBit_eq
    intro i
    rw [show (256 : Nat) = 2 ^ 8 from rfl, Nat.testBit_div_two_pow, Nat.testBit_div_two_pow, Nat.testBit_xor, Nat.testBit_lt_two_pow (x := b) (i := i + 8)]
    · simp
    · exact Nat.lt_of_lt_of_le hb (by rw [show (256 : Nat) = 2 ^ 8 from rfl]; exact Nat.pow_le_pow_right (by omega) (by omega))
  have e2 : (c ^^^ b) % 256 = (c % 256) ^^^ b := by
    rw [show (256 : Nat) = 2 ^ 8 from rfl, Nat.xor_mod_two_pow, Nat.mod_eq_of_lt (a := b) hb]
  rw [e1, e2]
/-- after k bytes -/
def upto (s : ByteArray) (k : Nat) : Nat := (s.data.toList.take k).foldl (fun c b => sts 8 (c ^^^ b.toNat)) 4294967295
theorem to_succ (s : ByteArray) (k : Nat) (h : k < s.size) : upto s (k + 1) = sts 8 (upto s k ^^^ (s[k]).toNat) := by
  unfold upto
  rw [List.take_succ_eq_append_getElem (by simpa using h), List.foldl_append]
  rfl
theorem to_lt (s : ByteArray) : ∀ k, k ≤ s.size → upto s k < 2 ^ 32
  | 0, _ => by simp [upto]
  | k + 1, h => by
    rw [to_succ s k (by omega)]
    exact sts_lt (Nat.xor_lt_two_pow (to_lt s k (by omega)) (Nat.lt_of_lt_of_le (UInt8.toNat_lt _) (by omega))) 8
theorem flip (c : Nat) (h : c < 2 ^ 32) : c ^^^ 4294967295 = 4294967295 - c := by
  apply Nat.eq_of_testBit_eq
  intro i
  have e := Nat.testBit_two_pow_sub_succ h i
  rw [show 4294967295 - c = 2 ^ 32 - (c + 1) by omega, e, Nat.testBit_xor]
  have e2 : Nat.testBit 4294967295 i = decide (i < 32) := by
    have := Nat.testBit_two_pow_sub_one 32 i
    simpa using this
  rw [e2]
  by_cases hi : i < 32
  · simp [hi]
  · rw [Nat.testBit_lt_two_pow (x := c) (i := i) (Nat.lt_of_lt_of_le h (Nat.pow_le_pow_right (by omega) (by omega)))]
    simp [hi]
end Crc
end Go.Proofs.YthimchhnhhchkaaGreatDoor
