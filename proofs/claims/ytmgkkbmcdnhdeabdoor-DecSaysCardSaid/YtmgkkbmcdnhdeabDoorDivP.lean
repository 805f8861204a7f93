/- Division of 128 bits by 64, digit by digit (Knuth). Plain. -/
import Derived.Test.YtmgkkbmcdnhdeabDoorBits
namespace Go.Proofs.YtmgkkbmcdnhdeabDoor
namespace Kn
set_option linter.unusedVariables false

/-- what stands between two guesses of a digit -/
def Inv (u y1 y0 d q r : Nat) : Prop := q * y1 + r = u ∧ u * 4294967296 + d < (q + 1) * (y1 * 4294967296 + y0)
def Ok (u y1 y0 d : Nat) : Prop := 2147483648 ≤ y1 ∧ y1 < 4294967296 ∧ y0 < 4294967296 ∧ d < 4294967296 ∧ u < y1 * 4294967296 + y0
theorem expand (q y1 y0 : Nat) : q * (y1 * 4294967296 + y0) = q * y1 * 4294967296 + q * y0 := by rw [Nat.mul_add, Nat.mul_assoc]
theorem start {u y1 y0 d : Nat} (h : Ok u y1 y0 d) : Inv u y1 y0 d (u / y1) (u % y1) := by
  obtain ⟨h0, h1, h2, h3, h4⟩ := h
  have e := Nat.div_add_mod u y1
  have m := Nat.mod_lt u (show 0 < y1 by omega)
  rw [Nat.mul_comm] at e
  refine ⟨e, ?_⟩
  rw [expand, Nat.succ_mul]
  have : u + 1 ≤ u / y1 * y1 + y1 := by omega
  have h5 := Nat.mul_le_mul_right 4294967296 this
  omega
theorem test {u y1 y0 d q r : Nat} (h : Ok u y1 y0 d) (hi : Inv u y1 y0 d q r) : (4294967296 ≤ q ∨ 4294967296 * r + d < q * y0) ↔ u * 4294967296 + d < q * (y1 * 4294967296 + y0) := by
  obtain ⟨h0, h1, h2, h3, h4⟩ := h
  obtain ⟨i0, i1⟩ := hi
  have e := expand q y1 y0
  constructor
  · rintro (hq | hq)
    · have := Nat.mul_le_mul_right (y1 * 4294967296 + y0) hq
      omega
    · omega
  · intro hlt
    exact .inr (by omega)
theorem pos {u y1 y0 d q : Nat} (h : u * 4294967296 + d < q * (y1 * 4294967296 + y0)) : 0 < q := by
  rcases Nat.eq_zero_or_pos q with e | e
  · rw [e, Nat.zero_mul] at h; omega
  · exact e
theorem next {u y1 y0 d q r : Nat} (hi : Inv u y1 y0 d q r) (hlt : u * 4294967296 + d < q * (y1 * 4294967296 + y0)) : Inv u y1 y0 d (q - 1) (r + y1) := by
  obtain ⟨i0, i1⟩ := hi
  obtain ⟨p, rfl⟩ : ∃ p, q = p + 1 := ⟨q - 1, by have := pos hlt; omega⟩
  rw [Nat.succ_mul] at i0
  exact ⟨by simp; omega, by simpa using hlt⟩
theorem stop {u y1 y0 d q r : Nat} (h : Ok u y1 y0 d) (hi : Inv u y1 y0 d q r) (hr : 4294967296 ≤ r) : ¬ u * 4294967296 + d < q * (y1 * 4294967296 + y0) := by
  obtain ⟨h0, h1, h2, h3, h4⟩ := h
  obtain ⟨i0, i1⟩ := hi
  rw [expand]
  have hq : q < 4294967296 := by
    rcases Nat.lt_or_ge q 4294967296 with e | e
    · exact e
    · have := Nat.mul_le_mul_right y1 e
      omega
  have : q * y0 ≤ 4294967296 * 4294967296 := Nat.mul_le_mul (by omega) (by omega)
  omega
theorem done {u y1 y0 d q r : Nat} (h : Ok u y1 y0 d) (hi : Inv u y1 y0 d q r) (hn : ¬ u * 4294967296 + d < q * (y1 * 4294967296 + y0)) :
    q = (u * 4294967296 + d) / (y1 * 4294967296 + y0) ∧ q < 4294967296 ∧ q * (y1 * 4294967296 + y0) ≤ u * 4294967296 + d ∧ u * 4294967296 + d - q * (y1 * 4294967296 + y0) < y1 * 4294967296 + y0 := by
  obtain ⟨h0, h1, h2, h3, h4⟩ := h
  obtain ⟨i0, i1⟩ := hi
  have hy : 0 < y1 * 4294967296 + y0 := by omega
  have hq : q < 4294967296 := by
    rcases Nat.lt_or_ge q 4294967296 with e | e
    · exact e
    · have := Nat.mul_le_mul_right (y1 * 4294967296 + y0) e
      omega
  have hd := Nat.div_eq_of_lt_le (by omega) i1
  rw [Nat.succ_mul] at i1
  exact ⟨hd.symm, hq, by omega, by omega⟩
/-- the bounds of a guess -/
theorem bds {u y1 y0 d q r : Nat} (h : Ok u y1 y0 d) (hi : Inv u y1 y0 d q r) (hu : u < 18446744073709551616) : q ≤ 8589934591 ∧ r ≤ u := by
  obtain ⟨h0, h1, h2, h3, h4⟩ := h
  obtain ⟨i0, i1⟩ := hi
  refine ⟨?_, by omega⟩
  rcases Nat.lt_or_ge q 8589934592 with e | e
  · omega
  · have := Nat.mul_le_mul e h0
    omega
/-- both digits together -/
theorem two {N Y u d1 d0 q1 q0 R : Nat} (hY : 0 < Y) (hN : N = (u * 4294967296 + d1) * 4294967296 + d0) (hR : q1 * Y + R = u * 4294967296 + d1)
    (hle0 : q0 * Y ≤ R * 4294967296 + d0) (hd : R * 4294967296 + d0 - q0 * Y < Y) :
    q1 * 4294967296 + q0 = N / Y ∧ R * 4294967296 + d0 - q0 * Y = N % Y := by
  have e : N = (q1 * 4294967296 + q0) * Y + (R * 4294967296 + d0 - q0 * Y) := by
    have k1 : (q1 * 4294967296 + q0) * Y = q1 * Y * 4294967296 + q0 * Y := by rw [Nat.add_mul, Nat.mul_right_comm]
    rw [k1, hN, ← hR]
    omega
  have e1 : N / Y = q1 * 4294967296 + q0 := by
    rw [e, Nat.mul_comm, Nat.mul_add_div hY, Nat.div_eq_of_lt hd, Nat.add_zero]
  have e2 : N % Y = R * 4294967296 + d0 - q0 * Y := by
    rw [e, Nat.mul_comm, Nat.mul_add_mod, Nat.mod_eq_of_lt hd]
  exact ⟨e1.symm, e2.symm⟩
end Kn
end Go.Proofs.YtmgkkbmcdnhdeabDoor
