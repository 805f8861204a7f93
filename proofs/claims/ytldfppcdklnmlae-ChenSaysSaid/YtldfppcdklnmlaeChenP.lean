/- Expected times: what Expect answers. Plain. -/
import Derived.Test.YtldfppcdklnmlaeWithin
namespace Go.Proofs.Ytldfppcdklnmlae
set_option linter.unusedVariables false

def gI (l : List Int) (k : Nat) : Int := l.getD k 0
def lastS (S : List Int) : Nat → Int
  | 0 => 0
  | k + 1 => gI S k
def GoodC (S T : List Int) (k : Nat) : Prop := lastS S k < gI S k ∧ gI S k ≤ 1000000 ∧ 0 ≤ gI T k ∧ gI T k ≤ 1073741824
instance (S T : List Int) (k : Nat) : Decidable (GoodC S T k) := by unfold GoodC; infer_instance
/-- the sum that the program makes of the first k -/
def sumC (S T : List Int) (ev : Int) : Nat → Int
  | 0 => 0
  | k + 1 => sumC S T ev k + (gI T k - ev * gI S k)
/-- the sum that the document makes of the first k -/
def sumR (S T : List Int) (ev la : Int) : Nat → Int
  | 0 => 0
  | k + 1 => sumR S T ev la k + (gI T k + ev * (la - gI S k))
theorem lastS_bd (S T : List Int) (n : Nat) (h : ∀ k, k < n → GoodC S T k) : ∀ k, k ≤ n → 0 ≤ lastS S k ∧ lastS S k ≤ 1000000 ∧ (0 < k → 1 ≤ lastS S k) := by
  intro k
  induction k with
  | zero => intro _; simp [lastS]
  | succ k ih =>
    intro hk
    obtain ⟨i0, i1, i2⟩ := ih (by omega)
    obtain ⟨g0, g1, g2, g3⟩ := h k (by omega)
    show 0 ≤ gI S k ∧ gI S k ≤ 1000000 ∧ (0 < k + 1 → 1 ≤ gI S k)
    omega
theorem seq_bd (S T : List Int) (n : Nat) (h : ∀ k, k < n → GoodC S T k) (k : Nat) (hk : k < n) : 1 ≤ gI S k ∧ gI S k ≤ 1000000 := by
  obtain ⟨a, b, c⟩ := lastS_bd S T n h (k + 1) (by omega)
  exact ⟨c (by omega), b⟩
/-- each stands at or below the last -/
theorem seq_le (S T : List Int) (n : Nat) (h : ∀ k, k < n → GoodC S T k) : ∀ d k, k + d < n → gI S k ≤ gI S (k + d)
  | 0, k, _ => Int.le_refl _
  | d + 1, k, hk => by
    have := seq_le S T n h d k (by omega)
    have g := (h (k + d + 1) (by omega)).1
    have e : lastS S (k + d + 1) = gI S (k + d) := rfl
    rw [e] at g
    rw [show k + (d + 1) = k + d + 1 by omega]
    omega
theorem mul_bd {ev x : Int} (h0 : 1 ≤ ev) (h1 : ev ≤ 16777216) (x0 : 0 ≤ x) (x1 : x ≤ 1000001) : 0 ≤ ev * x ∧ ev * x ≤ 16777232777216 := by
  refine ⟨Int.mul_nonneg (by omega) x0, ?_⟩
  have := Int.mul_le_mul h1 x1 x0 (by omega : (0 : Int) ≤ 16777216)
  omega
theorem sumC_bd (S T : List Int) (ev : Int) (e0 : 1 ≤ ev) (e1 : ev ≤ 16777216) (n : Nat) (h64 : n ≤ 64) (h : ∀ k, k < n → GoodC S T k) :
    ∀ k, k ≤ n → -(16777232777216 * (k : Int)) ≤ sumC S T ev k ∧ sumC S T ev k ≤ 1073741824 * (k : Int) := by
  intro k
  induction k with
  | zero => intro _; simp [sumC]
  | succ k ih =>
    intro hk
    obtain ⟨i0, i1⟩ := ih (by omega)
    obtain ⟨s0, s1⟩ := seq_bd S T n h k (by omega)
    obtain ⟨g0, g1, g2, g3⟩ := h k (by omega)
    obtain ⟨m0, m1⟩ := mul_bd e0 e1 (x := gI S k) (by omega) (by omega)
    simp only [sumC]
    omega
theorem sumR_bd (S T : List Int) (ev : Int) (e0 : 1 ≤ ev) (e1 : ev ≤ 16777216) (n : Nat) (h64 : n ≤ 64) (h : ∀ k, k < n → GoodC S T k) :
    ∀ k, k ≤ n → 0 ≤ sumR S T ev (lastS S n) k ∧ sumR S T ev (lastS S n) k ≤ 16778306519040 * (k : Int) := by
  intro k
  induction k with
  | zero => intro _; simp [sumR]
  | succ k ih =>
    intro hk
    obtain ⟨i0, i1⟩ := ih (by omega)
    obtain ⟨s0, s1⟩ := seq_bd S T n h k (by omega)
    obtain ⟨g0, g1, g2, g3⟩ := h k (by omega)
    have hl : gI S k ≤ lastS S n := by
      have e : lastS S n = gI S (n - 1) := by
        rw [show n = (n - 1) + 1 by omega]
        rfl
      have := seq_le S T n h (n - 1 - k) k (by omega)
      rw [show k + (n - 1 - k) = n - 1 by omega] at this
      omega
    obtain ⟨l0, l1, l2⟩ := lastS_bd S T n h n (by omega)
    obtain ⟨m0, m1⟩ := mul_bd e0 e1 (x := lastS S n - gI S k) (by omega) (by omega)
    simp only [sumR]
    omega
theorem sum_eq (S T : List Int) (ev la : Int) : ∀ k : Nat, sumR S T ev la k = sumC S T ev k + (k : Int) * (ev * la)
  | 0 => by simp [sumR, sumC]
  | k + 1 => by
    have := sum_eq S T ev la k
    simp only [sumR, sumC]
    rw [this, Int.mul_sub]
    have : ((k + 1 : Nat) : Int) * (ev * la) = (k : Int) * (ev * la) + ev * la := by
      rw [Int.natCast_add, Int.add_mul]; simp
    omega
theorem expect_eq (S T : List Int) (ev la : Int) (n : Nat) (hn : 0 < n) : sumR S T ev la n / (n : Int) + ev = sumC S T ev n / (n : Int) + ev * (la + 1) := by
  rw [sum_eq, Int.add_mul_ediv_left _ _ (by omega : (n : Int) ≠ 0), Int.mul_add, Int.mul_one]
  omega
end Go.Proofs.Ytldfppcdklnmlae
