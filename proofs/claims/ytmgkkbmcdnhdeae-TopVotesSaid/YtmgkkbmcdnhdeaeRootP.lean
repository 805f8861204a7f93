/- Roots, halvings and powers: plain. -/
import Derived.Test.YtmgkkbmcdnhdeaeBits
namespace Go.Proofs.Ytmgkkbmcdnhdeae
namespace Rt
set_option linter.unusedVariables false

def IsRoot (a r : Nat) : Prop := r * r ≤ a ∧ a < (r + 1) * (r + 1)
theorem exists_root : ∀ a : Nat, ∃ r, IsRoot a r
  | 0 => ⟨0, by simp [IsRoot]⟩
  | a + 1 => by
    obtain ⟨r, h1, h2⟩ := exists_root a
    by_cases h : (r + 1) * (r + 1) ≤ a + 1
    · refine ⟨r + 1, h, ?_⟩
      have : (r + 1 + 1) * (r + 1 + 1) = (r + 1) * (r + 1) + 2 * (r + 1) + 1 := by
        rw [Nat.add_mul (r + 1) 1, Nat.mul_add (r + 1) (r + 1) 1]; omega
      omega
    · exact ⟨r, by omega, by omega⟩
theorem sq_mono {x y : Nat} (h : x ≤ y) : x * x ≤ y * y := Nat.mul_le_mul h h
theorem root_eq {a r s : Nat} (h : IsRoot a r) (h1 : s * s ≤ a) (h2 : a < (s + 1) * (s + 1)) : s = r := by
  rcases Nat.lt_trichotomy s r with e | e | e
  · have := sq_mono (show s + 1 ≤ r from e); have := h.1; omega
  · exact e
  · have := sq_mono (show r + 1 ≤ s from e); have := h.2; omega
theorem root_lt {a r : Nat} (h : IsRoot a r) (ha : a < 2 ^ 128) : r < 18446744073709551616 := by
  rcases Nat.lt_or_ge r 18446744073709551616 with e | e
  · exact e
  · have := sq_mono e; have := h.1; omega
/-- from above: one step of Newton's -/
theorem amgm (s t : Nat) : 4 * (s * t) ≤ (s + t) * (s + t) := by
  have e : (s + t) * (s + t) = s * s + t * t + 2 * (s * t) := by
    rw [Nat.add_mul, Nat.mul_add, Nat.mul_add, Nat.mul_comm t s]; omega
  rw [e]
  have key : 2 * (s * t) ≤ s * s + t * t := by
    rcases Nat.le_total s t with h | h
    · obtain ⟨d, rfl⟩ : ∃ d, t = s + d := ⟨t - s, by omega⟩
      have e1 : (s + d) * (s + d) = s * s + 2 * (s * d) + d * d := by rw [Nat.add_mul, Nat.mul_add, Nat.mul_add, Nat.mul_comm d s]; omega
      have e2 : s * (s + d) = s * s + s * d := Nat.mul_add _ _ _
      omega
    · obtain ⟨d, rfl⟩ : ∃ d, s = t + d := ⟨s - t, by omega⟩
      have e1 : (t + d) * (t + d) = t * t + 2 * (t * d) + d * d := by rw [Nat.add_mul, Nat.mul_add, Nat.mul_add, Nat.mul_comm d t]; omega
      have e2 : (t + d) * t = t * t + t * d := by rw [Nat.add_mul, Nat.mul_comm d t]
      omega
  omega
theorem newton {a x : Nat} (hx : 0 < x) : a < ((a / x + x) / 2 + 1) * ((a / x + x) / 2 + 1) := by
  have h1 := Nat.lt_mul_div_succ a hx
  have h2 := amgm (a / x + 1) x
  have h3 : a / x + 1 + x ≤ 2 * ((a / x + x) / 2 + 1) := by omega
  have h4 := sq_mono h3
  generalize (a / x + x) / 2 + 1 = h at *
  have h5 : 2 * h * (2 * h) = 4 * (h * h) := by
    rw [Nat.mul_assoc, Nat.mul_left_comm h 2 h]; omega
  rw [Nat.mul_comm x] at h1
  omega
theorem newton_stop {a x : Nat} (hx : 0 < x) (h : x ≤ (a / x + x) / 2) : x * x ≤ a := by
  have : x ≤ a / x := by omega
  have := (Nat.le_div_iff_mul_le hx).1 this
  exact this
theorem quot_le {a x : Nat} (hx : 0 < x) (h : a < (x + 1) * (x + 1)) : a / x ≤ x + 2 := by
  have e : (x + 1) * (x + 1) = x * x + 2 * x + 1 := by rw [Nat.add_mul, Nat.mul_add]; omega
  have : a / x < x + 3 := by
    rw [Nat.div_lt_iff_lt_mul hx, Nat.add_mul]
    omega
  omega
theorem start_ok {a n : Nat} (h : a < 2 ^ n) : a < (2 ^ ((n + 1) / 2) + 1) * (2 ^ ((n + 1) / 2) + 1) := by
  have h1 : 2 ^ n ≤ 2 ^ ((n + 1) / 2) * 2 ^ ((n + 1) / 2) := by
    rw [← Nat.pow_add]
    exact Nat.pow_le_pow_right (by omega) (by omega)
  have h2 := sq_mono (show 2 ^ ((n + 1) / 2) ≤ 2 ^ ((n + 1) / 2) + 1 by omega)
  omega
/-- bit by bit -/
def BitInv (a x j : Nat) : Prop := x * x ≤ a ∧ a < (x + 2 ^ j) * (x + 2 ^ j) ∧ ∃ m, x = 2 ^ j * m
theorem bit_or {x i : Nat} (h : ∃ m, x = 2 ^ (i + 1) * m) : x ||| 2 ^ i = x + 2 ^ i := by
  obtain ⟨m, rfl⟩ := h
  exact (Nat.two_pow_add_eq_or_of_lt (Nat.pow_lt_pow_right (by omega) (by omega)) m).symm
theorem bit_yes {a x i : Nat} (h : BitInv a x (i + 1)) (hle : (x + 2 ^ i) * (x + 2 ^ i) ≤ a) : BitInv a (x + 2 ^ i) i := by
  obtain ⟨h1, h2, m, h3⟩ := h
  refine ⟨hle, ?_, 2 * m + 1, ?_⟩
  · rw [Nat.pow_succ] at h2
    rw [show x + 2 ^ i + 2 ^ i = x + 2 ^ i * 2 by omega]
    exact h2
  · rw [h3, Nat.pow_succ, Nat.mul_add, Nat.mul_one, Nat.mul_assoc]
theorem bit_no {a x i : Nat} (h : BitInv a x (i + 1)) (hlt : a < (x + 2 ^ i) * (x + 2 ^ i)) : BitInv a x i := by
  obtain ⟨h1, h2, m, h3⟩ := h
  exact ⟨h1, hlt, 2 * m, by rw [h3, Nat.pow_succ, Nat.mul_assoc]⟩
/-- how often a number can be doubled -/
def IsHalv (a b : Nat) (k : Int) : Prop := (k = -1 ∧ (b = 0 ∨ a < b)) ∨ (∃ n : Nat, k = n ∧ 0 < b ∧ b * 2 ^ n ≤ a ∧ a < b * 2 ^ (n + 1))
theorem halv_len {a b k : Nat} (hb : 0 < b) (ha : 0 < a) (hk : k + Bt.blen b = Bt.blen a) : a < b * 2 ^ (k + 1) ∧ b * 2 ^ k < 2 * 2 ^ Bt.blen a := by
  have h1 := Bt.lt_blen a
  have h2 := (Bt.blen_spec b hb).1
  have h3 : 1 ≤ Bt.blen b := by rw [Bt.blen_pos _ hb]; omega
  have h4 := Bt.lt_blen b
  obtain ⟨c, hc⟩ : ∃ c, Bt.blen b = c + 1 := ⟨_, (Nat.sub_add_cancel h3).symm⟩
  rw [hc, Nat.add_sub_cancel] at h2
  constructor
  · rw [← hk, hc] at h1
    have : 2 ^ c * 2 ^ (k + 1) ≤ b * 2 ^ (k + 1) := Nat.mul_le_mul_right _ h2
    rw [← Nat.pow_add, show c + (k + 1) = k + (c + 1) by omega] at this
    omega
  · have : b * 2 ^ k < 2 ^ Bt.blen b * 2 ^ k := Nat.mul_lt_mul_of_pos_right h4 (Nat.two_pow_pos k)
    rw [← Nat.pow_add, Nat.add_comm, hk] at this
    omega
theorem halv_less {a b k : Nat} (hb : 0 < b) (hk : k + 1 + Bt.blen b = Bt.blen a) : b * 2 ^ k ≤ a := by
  have hl : 1 ≤ Bt.blen a := by omega
  have ha : 0 < a := by
    rcases Nat.eq_zero_or_pos a with h | h
    · rw [h, Bt.blen_zero] at hl; omega
    · exact h
  have h1 := (Bt.blen_spec a ha).1
  have h4 := Bt.lt_blen b
  have : b * 2 ^ k < 2 ^ Bt.blen b * 2 ^ k := Nat.mul_lt_mul_of_pos_right h4 (Nat.two_pow_pos k)
  rw [← Nat.pow_add] at this
  rw [show Bt.blen a - 1 = Bt.blen b + k by omega] at h1
  omega
/-- powers -/
theorem pow_big {a i n : Nat} (h : 2 ^ 128 ≤ a ^ i) (hn : i ≤ n) : 2 ^ 128 ≤ a ^ n := by
  rcases Nat.eq_zero_or_pos a with h0 | h0
  · subst h0
    cases i with
    | zero => exact absurd h (by decide)
    | succ i => rw [Nat.zero_pow (by omega)] at h; exact absurd h (by decide)
  · exact Nat.le_trans h (Nat.pow_le_pow_right h0 hn)
end Rt
end Go.Proofs.Ytmgkkbmcdnhdeae
