/- Histograms, plain: sums of the first counts, the class a part falls in. -/
import Derived.Test.YtfenbjffjeidmabBits
namespace Go.Proofs.Ytfenbjffjeidmab
namespace Hi
set_option linter.unusedVariables false

def Ok (l : List Int) : Prop := ∀ k, k < l.length → 0 ≤ l.getD k 0 ∧ l.getD k 0 ≤ 1073741824
instance (l : List Int) : Decidable (Ok l) := by unfold Ok; infer_instance
/-- the sum of the first k -/
def pre (l : List Int) : Nat → Int | 0 => 0 | k + 1 => pre l k + l.getD k 0
theorem pre_zero (l : List Int) : pre l 0 = 0 := rfl
theorem pre_succ (l : List Int) (k : Nat) : pre l (k + 1) = pre l k + l.getD k 0 := rfl
theorem pre_bd {l : List Int} (h : Ok l) (k : Nat) (hk : k ≤ l.length) : 0 ≤ pre l k ∧ pre l k ≤ k * 1073741824 := by
  induction k with
  | zero => simp [pre]
  | succ k ih =>
    have := h k (by omega)
    have := ih (by omega)
    rw [pre_succ]
    omega
theorem pre_mono {l : List Int} (h : Ok l) (i j : Nat) (hij : i ≤ j) (hj : j ≤ l.length) : pre l i ≤ pre l j := by
  induction j with
  | zero => have : i = 0 := by omega
            subst this; exact Int.le_refl _
  | succ j ih =>
    rcases Nat.lt_or_ge i (j + 1) with e | e
    · have := ih (by omega) (by omega)
      have := h j (by omega)
      rw [pre_succ]; omega
    · have : i = j + 1 := by omega
      subst this; exact Int.le_refl _
/-- the class in which the value number K stands -/
def IsAt (l : List Int) (K : Int) (b : Nat) : Prop := b < l.length ∧ pre l b < K ∧ K ≤ pre l (b + 1)
theorem exists_at {l : List Int} {K : Int} (h0 : 0 < K) : ∀ n, n ≤ l.length → K ≤ pre l n → ∃ b, IsAt l K b := by
  intro n
  induction n with
  | zero => intro _ h; simp [pre] at h; omega
  | succ n ih =>
    intro hn h
    by_cases e : K ≤ pre l n
    · exact ih (by omega) e
    · exact ⟨n, by omega, by omega, h⟩
theorem at_lt {l : List Int} {K : Int} {b k : Nat} (h : Ok l) (hb : IsAt l K b) (hk : k < b) : pre l (k + 1) < K := by
  have := pre_mono h (k + 1) b (by omega) (by have := hb.1; omega)
  have := hb.2.1
  omega
/-- the two ways to tell the number of a part -/
theorem same_part {x d : Int} (h0 : 0 ≤ x) (hd : 1 ≤ d) : (if (x + d - 1) / d ≤ 1 then 1 else (x + d - 1) / d) = (if x / d * d < x ∨ x / d = 0 then x / d + 1 else x / d) := by
  have e := Int.mul_ediv_add_emod x d
  have m0 := Int.emod_nonneg x (show d ≠ 0 by omega)
  have m1 := Int.emod_lt_of_pos x (show 0 < d by omega)
  have q0 : 0 ≤ x / d := Int.ediv_nonneg h0 (by omega)
  rw [Int.mul_comm d] at e
  rcases Int.lt_or_le (x % d) 1 with hr | hr
  · have hz : x % d = 0 := by omega
    have e2 : (x + d - 1) / d = x / d := by
      have : x + d - 1 = (d - 1) + x / d * d := by omega
      rw [this, Int.add_mul_ediv_right _ _ (by omega), Int.ediv_eq_zero_of_lt (by omega) (by omega)]
      omega
    rw [e2]
    split <;> split <;> omega
  · have e2 : (x + d - 1) / d = x / d + 1 := by
      have : x + d - 1 = (x % d - 1) + (x / d + 1) * d := by rw [Int.add_mul]; omega
      rw [this, Int.add_mul_ediv_right _ _ (by omega), Int.ediv_eq_zero_of_lt (by omega) (by omega)]
      omega
    rw [e2]
    split <;> split <;> omega
theorem part_le {a n d : Int} (ha : 1 ≤ a) (hn : 0 ≤ n) (hd : 1 ≤ d) (hnd : n ≤ d) : (if a * n / d * d < a * n ∨ a * n / d = 0 then a * n / d + 1 else a * n / d) ≤ a := by
  have h0 : 0 ≤ a * n := Int.mul_nonneg (by omega) hn
  have h1 : a * n ≤ a * d := Int.mul_le_mul_of_nonneg_left hnd (by omega)
  have e := Int.mul_ediv_add_emod (a * n) d
  have m0 := Int.emod_nonneg (a * n) (show d ≠ 0 by omega)
  have m1 := Int.emod_lt_of_pos (a * n) (show 0 < d by omega)
  have hq : a * n / d ≤ a := Int.ediv_le_of_le_mul (by omega) h1
  rw [Int.mul_comm d] at e
  split
  · rename_i h
    rcases h with h | h
    · have : a * n / d < a := by
        rcases Int.lt_or_le (a * n / d) a with g | g
        · exact g
        · have : a * n / d = a := by omega
          rw [this] at h; omega
      omega
    · omega
  · exact hq
/-- how many bits -/
theorem blen_pow {n : Nat} {k : Nat} : 2 ^ k ≤ n ↔ k < Bt.blen n := by
  constructor
  · exact Bt.le_blen
  · intro h
    rcases Nat.lt_or_ge n (2 ^ k) with e | e
    · have := Bt.blen_le e; omega
    · exact e
/-- the first k counts joined -/
def mid (l m : List Int) (k : Nat) : List Int := (List.range l.length).map fun j => if j < k then l.getD j 0 + m.getD j 0 else l.getD j 0
theorem mid_len (l m : List Int) (k : Nat) : (mid l m k).length = l.length := by simp [mid]
theorem mid_at (l m : List Int) (k j : Nat) (h : j < l.length) : (mid l m k).getD j 0 = if j < k then l.getD j 0 + m.getD j 0 else l.getD j 0 := by
  simp [mid, List.getD, h]
theorem list_ext {l m : List Int} (h : l.length = m.length) (h2 : ∀ j, j < l.length → l.getD j 0 = m.getD j 0) : l = m := by
  apply List.ext_getElem h
  intro i h1 h3
  have := h2 i h1
  simpa [List.getD, h1, h3] using this
theorem mid_zero (l m : List Int) : mid l m 0 = l := list_ext (mid_len l m 0) fun j h => by rw [mid_at _ _ _ _ (by rwa [mid_len] at h)]; simp
theorem mid_set (l m : List Int) (k : Nat) (h : k < l.length) : (mid l m k).set k (l.getD k 0 + m.getD k 0) = mid l m (k + 1) := by
  apply list_ext
  · simp [mid_len]
  · intro j hj
    simp [mid_len] at hj
    rw [mid_at _ _ _ _ hj]
    by_cases e : j = k
    · subst e
      rw [if_pos (by omega)]
      simp [List.getD, mid_len, hj]
    · have : ((mid l m k).set k (l.getD k 0 + m.getD k 0)).getD j 0 = (mid l m k).getD j 0 := by
        simp only [List.getD, List.getElem?_set]
        rw [if_neg (by omega)]
      rw [this, mid_at _ _ _ _ hj]
      by_cases e2 : j < k
      · rw [if_pos e2, if_pos (by omega)]
      · rw [if_neg e2, if_neg (by omega)]
/-- may the first k be joined? -/
def Fits (l m : List Int) (k : Nat) : Prop := ∀ j, j < k → l.getD j 0 + m.getD j 0 ≤ 1073741824
def firstAt (l : List Int) (K : Int) : Nat → Nat → Nat | 0, b => b | n + 1, b => if K ≤ pre l (b + 1) then b else firstAt l K n (b + 1)
theorem firstAt_is {l : List Int} {K : Int} : ∀ (n b : Nat), b + n < l.length → pre l b < K → K ≤ pre l (b + n + 1) → IsAt l K (firstAt l K n b)
  | 0, b, hl, h0, h1 => ⟨hl, h0, h1⟩
  | n + 1, b, hl, h0, h1 => by
    rw [firstAt]
    split
    · rename_i h; exact ⟨by omega, h0, h⟩
    · rename_i h
      exact firstAt_is n (b + 1) (by omega) (by omega) (by rw [show b + 1 + n + 1 = b + (n + 1) + 1 by omega]; exact h1)
def classOf (l : List Int) (K : Int) : Nat := firstAt l K 25 0
theorem classOf_is {l : List Int} {K : Int} (hl : l.length = 26) (h0 : 0 < K) (h1 : K ≤ pre l 26) : IsAt l K (classOf l K) := firstAt_is 25 0 (by omega) (by simpa [pre] using h0) h1
def Kof (a n d : Int) : Int := if a * n / d * d < a * n ∨ a * n / d = 0 then a * n / d + 1 else a * n / d
def lowOf (b : Nat) : Int := if b = 0 then 0 else 2 ^ (b - 1)
def highOf (b : Nat) : Int := if b = 0 then 0 else if 2 ^ b - 1 ≤ (16777216 : Int) then 2 ^ b - 1 else 16777216
theorem Kof_pos {a n d : Int} (h0 : 0 ≤ a * n) (hd : 1 ≤ d) : 0 < Kof a n d := by
  have q0 : 0 ≤ a * n / d := Int.ediv_nonneg h0 (by omega)
  unfold Kof
  split <;> omega
instance (l m : List Int) (k : Nat) : Decidable (Fits l m k) := by unfold Fits; infer_instance
end Hi
end Go.Proofs.Ytfenbjffjeidmab
