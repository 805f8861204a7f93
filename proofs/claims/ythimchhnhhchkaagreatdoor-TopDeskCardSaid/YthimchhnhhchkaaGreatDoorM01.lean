/- Plain facts on lists of bits, no program in sight. (with what it needs) -/
namespace Go.Proofs.YthimchhnhhchkaaGreatDoor.Bt

/-- The number that bits make, the lowest first. -/
def val : List Bool → Nat
  | [] => 0
  | b :: l => b.toNat + 2 * val l

@[simp] theorem val_nil : val [] = 0 := rfl
@[simp] theorem val_cons (b : Bool) (l : List Bool) : val (b :: l) = b.toNat + 2 * val l := rfl

theorem val_append (a b : List Bool) : val (a ++ b) = val a + 2 ^ a.length * val b := by
  induction a with
  | nil => simp
  | cons x l ih =>
    simp only [List.cons_append, val_cons, ih, List.length_cons, Nat.pow_succ]
    rw [Nat.mul_add, Nat.add_assoc]
    congr 2
    rw [Nat.mul_comm (2 ^ l.length) 2, Nat.mul_assoc]

theorem val_lt (l : List Bool) : val l < 2 ^ l.length := by
  induction l with
  | nil => simp
  | cons x l ih =>
    simp only [val_cons, List.length_cons, Nat.pow_succ]
    cases x <;> simp <;> omega

theorem val_falses (n : Nat) : val (List.replicate n false) = 0 := by
  induction n with
  | zero => rfl
  | succ n ih => simp [List.replicate_succ, ih]

/-- bit i of a list, as a number. -/
def bit (l : List Bool) (i : Nat) : Nat := (l.getD i false).toNat

theorem bit_le (l : List Bool) (i : Nat) : bit l i ≤ 1 := by
  unfold bit; cases l.getD i false <;> simp

theorem bit_past (l : List Bool) (i : Nat) (h : l.length ≤ i) : bit l i = 0 := by
  unfold bit; rw [List.getD_eq_getElem?_getD, List.getElem?_eq_none h]; rfl

theorem bit_at (l : List Bool) (i : Nat) (h : i < l.length) : bit l i = (l[i]).toNat := by
  unfold bit; rw [List.getD_eq_getElem?_getD, List.getElem?_eq_getElem h]; rfl

theorem val_drop (l : List Bool) (i : Nat) : val (l.drop i) = bit l i + 2 * val (l.drop (i + 1)) := by
  rcases Nat.lt_or_ge i l.length with h | h
  · rw [List.drop_eq_getElem_cons h, val_cons, bit_at l i h]
  · rw [List.drop_eq_nil_of_le h, List.drop_eq_nil_of_le (by omega), bit_past l i h]; rfl

theorem val_take_succ (l : List Bool) (i : Nat) : val (l.take (i + 1)) = val (l.take i) + 2 ^ i * bit l i := by
  rcases Nat.lt_or_ge i l.length with h | h
  · rw [List.take_succ_eq_append_getElem h, val_append, bit_at l i h]
    simp [List.length_take, Nat.min_eq_left (Nat.le_of_lt h)]
  · rw [List.take_of_length_le h, List.take_of_length_le (by omega), bit_past l i h]; simp

theorem val_take_drop (l : List Bool) (i : Nat) (h : i ≤ l.length) : val l = val (l.take i) + 2 ^ i * val (l.drop i) := by
  have := val_append (l.take i) (l.drop i)
  rw [List.take_append_drop] at this
  rw [this, List.length_take, Nat.min_eq_left h]

/-- The highest bit is set, or there is none. -/
def Norm (l : List Bool) : Prop := l = [] ∨ 2 ^ l.length ≤ 2 * val l

theorem norm_nil : Norm [] := .inl rfl

theorem norm_snoc (l : List Bool) : Norm (l ++ [true]) := by
  refine .inr ?_
  rw [val_append]
  simp [Nat.pow_succ]
  omega

/-- Two lists of the same value and length are the same. -/
theorem eq_of_val : ∀ (a b : List Bool), a.length = b.length → val a = val b → a = b
  | [], [], _, _ => rfl
  | [], _ :: _, h, _ => by simp at h
  | _ :: _, [], h, _ => by simp at h
  | x :: a, y :: b, h, hv => by
    simp only [val_cons] at hv
    have hx : x = y := by cases x <;> cases y <;> simp at hv <;> first | rfl | omega
    subst hx
    rw [eq_of_val a b (by simpa using h) (by omega)]

theorem pow_le_pow {a b : Nat} (h : a ≤ b) : 2 ^ a ≤ 2 ^ b := Nat.pow_le_pow_right (by omega) h
theorem pow_lt_iff {a b : Nat} : 2 ^ a < 2 ^ b ↔ a < b := Nat.pow_lt_pow_iff_right (by omega)

/-- Of a list whose highest bit is set the length is told by the value. -/
theorem norm_len_le {l : List Bool} (h : Norm l) {k : Nat} (hv : val l < 2 ^ k) : l.length ≤ k := by
  rcases h with rfl | h
  · simp
  · have : 2 ^ l.length < 2 ^ (k + 1) := by rw [Nat.pow_succ]; omega
    have := pow_lt_iff.1 this
    omega

theorem norm_len_gt {l : List Bool} (h : Norm l) {k : Nat} (hk : k < l.length) : 2 ^ k ≤ val l := by
  rcases h with rfl | h
  · simp at hk
  · have : 2 ^ (k + 1) ≤ 2 ^ l.length := pow_le_pow hk
    rw [Nat.pow_succ] at this; omega

theorem norm_val_zero {l : List Bool} (h : Norm l) (hv : val l = 0) : l = [] := by
  have := norm_len_le h (k := 0) (by simp [hv])
  exact List.eq_nil_of_length_eq_zero (by omega)

/-- How many bits a number has. -/
def blen : Nat → Nat
  | 0 => 0
  | n + 1 => blen ((n + 1) / 2) + 1

theorem blen_zero : blen 0 = 0 := by simp [blen]
theorem blen_pos (n : Nat) (h : 0 < n) : blen n = blen (n / 2) + 1 := by
  cases n with
  | zero => omega
  | succ n => rw [blen]

theorem blen_spec (n : Nat) (h : 0 < n) : 2 ^ (blen n - 1) ≤ n ∧ n < 2 ^ blen n := by
  induction n using Nat.strongRecOn with
  | _ n ih =>
    rw [blen_pos n h]
    by_cases h2 : n / 2 = 0
    · rw [h2, blen_zero]; simp; omega
    · have := ih (n / 2) (by omega) (by omega)
      have hb : 1 ≤ blen (n / 2) := by rw [blen_pos _ (by omega)]; omega
      have e : blen (n / 2) = (blen (n / 2) - 1) + 1 := by omega
      refine ⟨?_, ?_⟩
      · rw [Nat.add_sub_cancel, e, Nat.pow_succ]; omega
      · rw [Nat.pow_succ]; omega

theorem lt_blen (n : Nat) : n < 2 ^ blen n := by
  rcases Nat.eq_zero_or_pos n with rfl | h
  · simp [blen_zero]
  · exact (blen_spec n h).2

theorem blen_le {n k : Nat} (h : n < 2 ^ k) : blen n ≤ k := by
  rcases Nat.eq_zero_or_pos n with rfl | h0
  · simp [blen_zero]
  · have := (blen_spec n h0).1
    have h1 : 2 ^ (blen n - 1) < 2 ^ k := by omega
    have := pow_lt_iff.1 h1
    omega

theorem le_blen {n k : Nat} (h : 2 ^ k ≤ n) : k < blen n := by
  have := lt_blen n
  exact pow_lt_iff.1 (by omega)

theorem norm_len {l : List Bool} (h : Norm l) : l.length = blen (val l) := by
  rcases h with rfl | h
  · simp [blen_zero]
  · have h1 := val_lt l
    have h0 : 0 < val l := by have := Nat.two_pow_pos l.length; omega
    have h2 := blen_spec _ h0
    have : 2 ^ l.length < 2 ^ (blen (val l) + 1) := by rw [Nat.pow_succ]; omega
    have a := pow_lt_iff.1 this
    have : 2 ^ (blen (val l) - 1) < 2 ^ l.length := by omega
    have b := pow_lt_iff.1 this
    have : 1 ≤ blen (val l) := by rw [blen_pos _ h0]; omega
    omega

/-- The bits of a number. -/
def bits : Nat → List Bool
  | 0 => []
  | n + 1 => ((n + 1) % 2 == 1) :: bits ((n + 1) / 2)

theorem bits_zero : bits 0 = [] := by simp [bits]
theorem bits_pos (n : Nat) (h : 0 < n) : bits n = (n % 2 == 1) :: bits (n / 2) := by
  cases n with
  | zero => omega
  | succ n => rw [bits]

theorem val_bits (n : Nat) : val (bits n) = n := by
  induction n using Nat.strongRecOn with
  | _ n ih =>
    rcases Nat.eq_zero_or_pos n with rfl | h
    · simp [bits_zero]
    · rw [bits_pos n h, val_cons, ih (n / 2) (by omega)]
      rcases Nat.mod_two_eq_zero_or_one n with e | e <;> simp [e] <;> omega

theorem len_bits (n : Nat) : (bits n).length = blen n := by
  induction n using Nat.strongRecOn with
  | _ n ih =>
    rcases Nat.eq_zero_or_pos n with rfl | h
    · simp [bits_zero, blen_zero]
    · rw [bits_pos n h, blen_pos n h, List.length_cons, ih (n / 2) (by omega)]

theorem norm_bits (n : Nat) : Norm (bits n) := by
  rcases Nat.eq_zero_or_pos n with rfl | h
  · simp [bits_zero, norm_nil]
  · refine .inr ?_
    rw [val_bits, len_bits]
    have := (blen_spec n h).1
    have h1 : 1 ≤ blen n := by rw [blen_pos n h]; omega
    have e : blen n = (blen n - 1) + 1 := by omega
    rw [e, Nat.pow_succ]; omega

theorem norm_eq_bits {l : List Bool} (h : Norm l) : l = bits (val l) :=
  eq_of_val _ _ (by rw [len_bits, norm_len h]) (val_bits _).symm

end Go.Proofs.YthimchhnhhchkaaGreatDoor.Bt

namespace Go.Proofs.YthimchhnhhchkaaGreatDoor

set_option linter.unusedSimpArgs false
set_option linter.unusedVariables false

theorem take_lt (l : List Bool) (k : Nat) (hk : k ≤ l.length) : Bt.val (l.take k) < 2 ^ k := by
  have := Bt.val_lt (l.take k)
  rwa [List.length_take, Nat.min_eq_left hk] at this

theorem take_true (l : List Bool) (k : Nat) (hk : k < l.length) (h : l[k] = true) : Bt.val (l.take (k + 1)) = Bt.val (l.take k) + 2 ^ k := by
  rw [Bt.val_take_succ, Bt.bit_at l k hk, h]; simp
theorem take_false (l : List Bool) (k : Nat) (hk : k < l.length) (h : l[k] = false) : Bt.val (l.take (k + 1)) = Bt.val (l.take k) := by
  rw [Bt.val_take_succ, Bt.bit_at l k hk, h]; simp
theorem val_take_le (l : List Bool) (k : Nat) (hk : k ≤ l.length) : Bt.val (l.take k) ≤ Bt.val l := by
  have := Bt.val_take_drop l k hk
  have : 0 ≤ 2 ^ k * Bt.val (l.drop k) := Nat.zero_le _
  omega
theorem val_true_ge (l : List Bool) (k : Nat) (hk : k < l.length) (h : l[k] = true) : 2 ^ k ≤ Bt.val l := by
  have := take_true l k hk h
  have := val_take_le l (k + 1) hk
  omega

theorem val_moved (k : Nat) (lb : List Bool) : Bt.val (List.replicate k false ++ lb) = 2 ^ k * Bt.val lb := by
  rw [Bt.val_append, Bt.val_falses]; simp

end Go.Proofs.YthimchhnhhchkaaGreatDoor

namespace Go.Proofs.YthimchhnhhchkaaGreatDoor
namespace Rt
set_option linter.unusedVariables false

def IsRoot (a r : Nat) : Prop := r * r ≤ a ∧ a < (r + 1) * (r + 1)
theorem exists_root : ∀ a : Nat, ∃ r, IsRoot a r
  | 0 => ⟨0, by simp [IsRoot]⟩
  | a + 1 => by
    obtain ⟨r, h1, h2⟩ := exists_root a
    by_cases h : (r + 1) * (r + 1) ≤ a + 1
    · refine ⟨r + 1, h, ?_⟩
      have : (r + 1 + 1) * (r + 1 + 1) = (r + 1) * (r + 1) + 2 * (r + 1) + 1 := by
        rw [Nat.add_mul (r + 1) 1, Nat.mul_add (r + 1) (r + 1) 1]; omega
      omega
    · exact ⟨r, by omega, by omega⟩
theorem sq_mono {x y : Nat} (h : x ≤ y) : x * x ≤ y * y := Nat.mul_le_mul h h
theorem root_eq {a r s : Nat} (h : IsRoot a r) (h1 : s * s ≤ a) (h2 : a < (s + 1) * (s + 1)) : s = r := by
  rcases Nat.lt_trichotomy s r with e | e | e
  · have := sq_mono (show s + 1 ≤ r from e); have := h.1; omega
  · exact e
  · have := sq_mono (show r + 1 ≤ s from e); have := h.2; omega
theorem root_lt {a r : Nat} (h : IsRoot a r) (ha : a < 2 ^ 128) : r < 18446744073709551616 := by
  rcases Nat.lt_or_ge r 18446744073709551616 with e | e
  · exact e
  · have := sq_mono e; have := h.1; omega
/-- from above: one step of Newton's -/
theorem amgm (s t : Nat) : 4 * (s * t) ≤ (s + t) * (s + t) := by
  have e : (s + t) * (s + t) = s * s + t * t + 2 * (s * t) := by
    rw [Nat.add_mul, Nat.mul_add, Nat.mul_add, Nat.mul_comm t s]; omega
  rw [e]
  have key : 2 * (s * t) ≤ s * s + t * t := by
    rcases Nat.le_total s t with h | h
    · obtain ⟨d, rfl⟩ : ∃ d, t = s + d := ⟨t - s, by omega⟩
      have e1 : (s + d) * (s + d) = s * s + 2 * (s * d) + d * d := by rw [Nat.add_mul, Nat.mul_add, Nat.mul_add, Nat.mul_comm d s]; omega
      have e2 : s * (s + d) = s * s + s * d := Nat.mul_add _ _ _
      omega
    · obtain ⟨d, rfl⟩ : ∃ d, s = t + d := ⟨s - t, by omega⟩
      have e1 : (t + d) * (t + d) = t * t + 2 * (t * d) + d * d := by rw [Nat.add_mul, Nat.mul_add, Nat.mul_add, Nat.mul_comm d t]; omega
      have e2 : (t + d) * t = t * t + t * d := by rw [Nat.add_mul, Nat.mul_comm d t]
      omega
  omega
theorem newton {a x : Nat} (hx : 0 < x) : a < ((a / x + x) / 2 + 1) * ((a / x + x) / 2 + 1) := by
  have h1 := Nat.lt_mul_div_succ a hx
  have h2 := amgm (a / x + 1) x
  have h3 : a / x + 1 + x ≤ 2 * ((a / x + x) / 2 + 1) := by omega
  have h4 := sq_mono h3
  generalize (a / x + x) / 2 + 1 = h at *
  have h5 : 2 * h * (2 * h) = 4 * (h * h) := by
    rw [Nat.mul_assoc, Nat.mul_left_comm h 2 h]; omega
  rw [Nat.mul_comm x] at h1
  omega
theorem newton_stop {a x : Nat} (hx : 0 < x) (h : x ≤ (a / x + x) / 2) : x * x ≤ a := by
  have : x ≤ a / x := by omega
  have := (Nat.le_div_iff_mul_le hx).1 this
  exact this
theorem quot_le {a x : Nat} (hx : 0 < x) (h : a < (x + 1) * (x + 1)) : a / x ≤ x + 2 := by
  have e : (x + 1) * (x + 1) = x * x + 2 * x + 1 := by rw [Nat.add_mul, Nat.mul_add]; omega
  have : a / x < x + 3 := by
    rw [Nat.div_lt_iff_lt_mul hx, Nat.add_mul]
    omega
  omega
theorem start_ok {a n : Nat} (h : a < 2 ^ n) : a < (2 ^ ((n + 1) / 2) + 1) * (2 ^ ((n + 1) / 2) + 1) := by
  have h1 : 2 ^ n ≤ 2 ^ ((n + 1) / 2) * 2 ^ ((n + 1) / 2) := by
    rw [← Nat.pow_add]
    exact Nat.pow_le_pow_right (by omega) (by omega)
  have h2 := sq_mono (show 2 ^ ((n + 1) / 2) ≤ 2 ^ ((n + 1) / 2) + 1 by omega)
  omega
/-- bit by bit -/
def BitInv (a x j : Nat) : Prop := x * x ≤ a ∧ a < (x + 2 ^ j) * (x + 2 ^ j) ∧ ∃ m, x = 2 ^ j * m
theorem bit_or {x i : Nat} (h : ∃ m, x = 2 ^ (i + 1) * m) : x ||| 2 ^ i = x + 2 ^ i := by
  obtain ⟨m, rfl⟩ := h
  exact (Nat.two_pow_add_eq_or_of_lt (Nat.pow_lt_pow_right (by omega) (by omega)) m).symm
theorem bit_yes {a x i : Nat} (h : BitInv a x (i + 1)) (hle : (x + 2 ^ i) * (x + 2 ^ i) ≤ a) : BitInv a (x + 2 ^ i) i := by
  obtain ⟨h1, h2, m, h3⟩ := h
  refine ⟨hle, ?_, 2 * m + 1, ?_⟩
  · rw [Nat.pow_succ] at h2
    rw [show x + 2 ^ i + 2 ^ i = x + 2 ^ i * 2 by omega]
    exact h2
  · rw [h3, Nat.pow_succ, Nat.mul_add, Nat.mul_one, Nat.mul_assoc]
theorem bit_no {a x i : Nat} (h : BitInv a x (i + 1)) (hlt : a < (x + 2 ^ i) * (x + 2 ^ i)) : BitInv a x i := by
  obtain ⟨h1, h2, m, h3⟩ := h
  exact ⟨h1, hlt, 2 * m, by rw [h3, Nat.pow_succ, Nat.mul_assoc]⟩
/-- how often a number can be doubled -/
def IsHalv (a b : Nat) (k : Int) : Prop := (k = -1 ∧ (b = 0 ∨ a < b)) ∨ (∃ n : Nat, k = n ∧ 0 < b ∧ b * 2 ^ n ≤ a ∧ a < b * 2 ^ (n + 1))
theorem halv_len {a b k : Nat} (hb : 0 < b) (ha : 0 < a) (hk : k + Bt.blen b = Bt.blen a) : a < b * 2 ^ (k + 1) ∧ b * 2 ^ k < 2 * 2 ^ Bt.blen a := by
  have h1 := Bt.lt_blen a
  have h2 := (Bt.blen_spec b hb).1
  have h3 : 1 ≤ Bt.blen b := by rw [Bt.blen_pos _ hb]; omega
  have h4 := Bt.lt_blen b
  obtain ⟨c, hc⟩ : ∃ c, Bt.blen b = c + 1 := ⟨_, (Nat.sub_add_cancel h3).symm⟩
  rw [hc, Nat.add_sub_cancel] at h2
  constructor
  · rw [← hk, hc] at h1
    have : 2 ^ c * 2 ^ (k + 1) ≤ b * 2 ^ (k + 1) := Nat.mul_le_mul_right _ h2
    rw [← Nat.pow_add, show c + (k + 1) = k + (c + 1) by omega] at this
    omega
  · have : b * 2 ^ k < 2 ^ Bt.blen b * 2 ^ k := Nat.mul_lt_mul_of_pos_right h4 (Nat.two_pow_pos k)
    rw [← Nat.pow_add, Nat.add_comm, hk] at this
    omega
theorem halv_less {a b k : Nat} (hb : 0 < b) (hk : k + 1 + Bt.blen b = Bt.blen a) : b * 2 ^ k ≤ a := by
  have hl : 1 ≤ Bt.blen a := by omega
  have ha : 0 < a := by
    rcases Nat.eq_zero_or_pos a with h | h
    · rw [h, Bt.blen_zero] at hl; omega
    · exact h
  have h1 := (Bt.blen_spec a ha).1
  have h4 := Bt.lt_blen b
  have : b * 2 ^ k < 2 ^ Bt.blen b * 2 ^ k := Nat.mul_lt_mul_of_pos_right h4 (Nat.two_pow_pos k)
  rw [← Nat.pow_add] at this
  rw [show Bt.blen a - 1 = Bt.blen b + k by omega] at h1
  omega
/-- powers -/
theorem pow_big {a i n : Nat} (h : 2 ^ 128 ≤ a ^ i) (hn : i ≤ n) : 2 ^ 128 ≤ a ^ n := by
  rcases Nat.eq_zero_or_pos a with h0 | h0
  · subst h0
    cases i with
    | zero => exact absurd h (by decide)
    | succ i => rw [Nat.zero_pow (by omega)] at h; exact absurd h (by decide)
  · exact Nat.le_trans h (Nat.pow_le_pow_right h0 hn)
end Rt
end Go.Proofs.YthimchhnhhchkaaGreatDoor
