/- Decimal digits, plainly: the digits of a number doubled; what a row of digits is worth. -/
import Derived.Test.YtmgkkbmcdnhdeabDoorBase
namespace Go.Proofs.YtmgkkbmcdnhdeabDoor
namespace Dc
def digs (n : Nat) : List Nat := if n < 10 then [n] else (n % 10) :: digs (n / 10)
termination_by n
decreasing_by omega
theorem digs_small {n : Nat} (h : n < 10) : digs n = [n] := by rw [digs, if_pos h]
theorem digs_big {n : Nat} (h : 10 ≤ n) : digs n = (n % 10) :: digs (n / 10) := by rw [digs, if_neg (by omega)]
theorem digs_ind {p : Nat → Prop} (h1 : ∀ n, n < 10 → p n) (h2 : ∀ n, 10 ≤ n → p (n / 10) → p n) : ∀ n, p n := by
  intro n
  induction n using Nat.strongRecOn with
  | _ n ih =>
    by_cases h : n < 10
    · exact h1 n h
    · exact h2 n (by omega) (ih (n / 10) (by omega))
theorem digs_lt : ∀ n, ∀ d ∈ digs n, d < 10 := by
  refine digs_ind (fun n h => ?_) (fun n h ih => ?_)
  · rw [digs_small h]; intro d hd; obtain rfl := List.mem_singleton.1 hd; exact h
  · rw [digs_big h]
    intro d hd
    rcases List.mem_cons.1 hd with rfl | hd
    · omega
    · exact ih d hd
theorem digs_ne (n : Nat) : 1 ≤ (digs n).length := by
  by_cases h : n < 10
  · rw [digs_small h]; simp
  · rw [digs_big (by omega)]; simp
theorem digs_len : ∀ (k n : Nat), n < 10 ^ (k + 1) → (digs n).length ≤ k + 1
  | 0, n, h => by rw [digs_small (by simpa using h)]; simp
  | k + 1, n, h => by
    by_cases h1 : n < 10
    · rw [digs_small h1]; simp
    · rw [digs_big (by omega), List.length_cons]
      have := digs_len k (n / 10) (by rw [Nat.pow_succ] at h; omega)
      omega
theorem digs_39 {n : Nat} (h : n < 2 ^ 128) : (digs n).length ≤ 39 := digs_len 38 n (Nat.lt_of_lt_of_le h (by decide))
/-- digits doubled, with a carry from below -/
def dbl : Nat → List Nat → List Nat × Nat
  | c, [] => ([], c)
  | c, d :: ds => ((2 * d + c) % 10 :: (dbl ((2 * d + c) / 10) ds).1, (dbl ((2 * d + c) / 10) ds).2)
theorem dbl_len : ∀ (c : Nat) (ds : List Nat), (dbl c ds).1.length = ds.length
  | _, [] => rfl
  | c, d :: ds => by simp [dbl, dbl_len]
theorem dbl_snoc : ∀ (c : Nat) (ds : List Nat) (d : Nat), dbl c (ds ++ [d]) = ((dbl c ds).1 ++ [(2 * d + (dbl c ds).2) % 10], (2 * d + (dbl c ds).2) / 10)
  | c, [], d => by simp [dbl]
  | c, e :: ds, d => by simp [dbl, dbl_snoc]
theorem dbl_carry : ∀ (c : Nat) (ds : List Nat), c ≤ 1 → (∀ d ∈ ds, d < 10) → (dbl c ds).2 ≤ 1
  | c, [], h, _ => h
  | c, d :: ds, h, hd => dbl_carry _ ds (by have := hd d (List.mem_cons_self ..); omega) fun e he => hd e (List.mem_cons_of_mem _ he)
theorem dbl_lt : ∀ (c : Nat) (ds : List Nat), ∀ d ∈ (dbl c ds).1, d < 10
  | c, [], d, h => by cases h
  | c, e :: ds, d, h => by
    rcases List.mem_cons.1 h with rfl | h
    · omega
    · exact dbl_lt _ ds d h
def tail1 (c : Nat) : List Nat := if 0 < c then [c] else []
theorem dbl_digs : ∀ n, ∀ c, c ≤ 1 → (dbl c (digs n)).1 ++ tail1 (dbl c (digs n)).2 = digs (2 * n + c) := by
  refine digs_ind (fun n h c hc => ?_) (fun n h ih c hc => ?_)
  · rw [digs_small h]
    simp only [dbl]
    by_cases h1 : 2 * n + c < 10
    · rw [digs_small h1]
      unfold tail1
      rw [if_neg (by omega), Nat.mod_eq_of_lt h1]
      rfl
    · rw [digs_big (by omega), digs_small (by omega : (2 * n + c) / 10 < 10)]
      unfold tail1
      rw [if_pos (by omega)]
      rfl
  · rw [digs_big h, digs_big (by omega : 10 ≤ 2 * n + c)]
    have h1 := ih ((2 * (n % 10) + c) / 10) (by omega)
    simp only [dbl, List.cons_append]
    rw [h1, show (2 * (n % 10) + c) % 10 = (2 * n + c) % 10 by omega, show 2 * (n / 10) + (2 * (n % 10) + c) / 10 = (2 * n + c) / 10 by omega]
/-- the digits after k of them were doubled -/
def half (c : Nat) (ds : List Nat) (k : Nat) : List Nat := (dbl c (ds.take k)).1 ++ ds.drop k
theorem half_zero (c : Nat) (ds : List Nat) : half c ds 0 = ds := by simp [half, dbl]
theorem half_len (c : Nat) (ds : List Nat) (k : Nat) (hk : k ≤ ds.length) : (half c ds k).length = ds.length := by simp [half, dbl_len]; omega
theorem half_at (c : Nat) (ds : List Nat) (k : Nat) (hk : k < ds.length) : (half c ds k).getD k 0 = ds.getD k 0 := by
  unfold half
  have hl : (dbl c (ds.take k)).1.length = k := by rw [dbl_len, List.length_take]; omega
  simp only [List.getD]
  rw [List.getElem?_append_right (by omega), hl, Nat.sub_self, List.getElem?_drop, Nat.add_zero]
theorem take_succ' (ds : List Nat) (k : Nat) (hk : k < ds.length) : ds.take (k + 1) = ds.take k ++ [ds.getD k 0] := by
  rw [List.take_succ_eq_append_getElem hk]
  simp [List.getD, hk]
theorem half_step (c : Nat) (ds : List Nat) (k : Nat) (hk : k < ds.length) : half c ds (k + 1) = (half c ds k).set k ((2 * ds.getD k 0 + (dbl c (ds.take k)).2) % 10) := by
  unfold half
  have hl : (dbl c (ds.take k)).1.length = k := by rw [dbl_len, List.length_take]; omega
  rw [take_succ' ds k hk, dbl_snoc, List.set_append_right _ _ (by omega), hl, Nat.sub_self, List.drop_eq_getElem_cons hk, List.set_cons_zero, List.append_assoc]
  rfl
theorem carry_step (c : Nat) (ds : List Nat) (k : Nat) (hk : k < ds.length) : (dbl c (ds.take (k + 1))).2 = (2 * ds.getD k 0 + (dbl c (ds.take k)).2) / 10 := by
  rw [take_succ' ds k hk, dbl_snoc]
theorem half_full (c : Nat) (ds : List Nat) : half c ds ds.length = (dbl c ds).1 := by simp [half]
/-- the byte of a digit -/
def ch (d : Nat) : UInt8 := UInt8.ofNat (48 + d)
/-- the text of a number -/
def txt (n : Nat) : ByteArray := ⟨((digs n).reverse.map ch).toArray⟩
/-- what a row of digits is worth -/
def vals (l : List UInt8) : Nat := l.foldl (fun v b => 10 * v + (b.toNat - 48)) 0
def dig (b : UInt8) : Bool := decide (48 ≤ b.toNat) && decide (b.toNat ≤ 57)
theorem vals_snoc (l : List UInt8) (b : UInt8) : vals (l ++ [b]) = 10 * vals l + (b.toNat - 48) := by simp [vals]
theorem vals_take (l : List UInt8) (k : Nat) (h : k < l.length) : vals (l.take (k + 1)) = 10 * vals (l.take k) + ((l[k]).toNat - 48) := by
  rw [List.take_succ_eq_append_getElem h, vals_snoc]
theorem vals_mono (l : List UInt8) (j k : Nat) (hjk : j ≤ k) (hk : k ≤ l.length) : vals (l.take j) ≤ vals (l.take k) := by
  induction k with
  | zero => obtain rfl : j = 0 := by omega
            exact Nat.le_refl _
  | succ k ih =>
    by_cases h : j = k + 1
    · subst h; exact Nat.le_refl _
    · have := ih (by omega) (by omega)
      rw [vals_take l k (by omega)]
      omega
theorem snoc_ind {α : Type} {p : List α → Prop} (h0 : p []) (h1 : ∀ l a, p l → p (l ++ [a])) (l : List α) : p l := by
  have : ∀ m : List α, p m.reverse := by
    intro m
    induction m with
    | nil => exact h0
    | cons a m ih => rw [List.reverse_cons]; exact h1 _ _ ih
  have h := this l.reverse
  rwa [List.reverse_reverse] at h
theorem vals_app (l m : List UInt8) : vals (l ++ m) = vals l * 10 ^ m.length + vals m := by
  refine snoc_ind (p := fun m => vals (l ++ m) = vals l * 10 ^ m.length + vals m) (by simp [vals]) (fun m b ih => ?_) m
  · rw [← List.append_assoc, vals_snoc, ih, vals_snoc, List.length_append, List.length_singleton, Nat.pow_succ]
    rw [Nat.mul_add, Nat.add_assoc, Nat.mul_comm 10 (vals l * 10 ^ m.length), Nat.mul_assoc]
theorem vals_lt (l : List UInt8) (h : ∀ b ∈ l, dig b = true) : vals l < 10 ^ l.length := by
  revert h
  refine snoc_ind (p := fun l => (∀ b ∈ l, dig b = true) → vals l < 10 ^ l.length) (by simp [vals]) (fun l b ih h => ?_) l
  · have h1 := ih fun x hx => h x (List.mem_append_left _ hx)
    have h2 := h b (by simp)
    simp [dig] at h2
    rw [vals_snoc, List.length_append, List.length_singleton, Nat.pow_succ]
    omega
theorem vals_cons (b : UInt8) (l : List UInt8) : vals (b :: l) = (b.toNat - 48) * 10 ^ l.length + vals l := by
  have := vals_app [b] l
  simpa [vals] using this
theorem vals_ge (b : UInt8) (l : List UInt8) (hb : dig b = true) (h0 : b.toNat ≠ 48) : 10 ^ l.length ≤ vals (b :: l) := by
  rw [vals_cons]
  simp [dig] at hb
  have := Nat.mul_le_mul_right (10 ^ l.length) (show 1 ≤ b.toNat - 48 by omega)
  omega
/-- of rows of the same length the greater is worth more -/
theorem vals_less : ∀ (l m : List UInt8), l.length = m.length → (∀ b ∈ l, dig b = true) → (∀ b ∈ m, dig b = true) → (Op.bytesLess l m = true ↔ vals l < vals m)
  | [], [], _, _, _ => by simp [vals, Op.bytesLess]
  | a :: l, b :: m, hlen, hl, hm => by
    have ih := vals_less l m (by simpa using hlen) (fun x hx => hl x (List.mem_cons_of_mem _ hx)) (fun x hx => hm x (List.mem_cons_of_mem _ hx))
    have ha := hl a (List.mem_cons_self ..)
    have hb := hm b (List.mem_cons_self ..)
    have h1 := vals_lt l fun x hx => hl x (List.mem_cons_of_mem _ hx)
    have h2 := vals_lt m fun x hx => hm x (List.mem_cons_of_mem _ hx)
    have hlen' : l.length = m.length := by simpa using hlen
    simp only [Op.bytesLess, Bool.or_eq_true, Bool.and_eq_true, decide_eq_true_eq, beq_iff_eq]
    rw [ih, vals_cons, vals_cons, hlen']
    rw [hlen'] at h1
    simp [dig] at ha hb
    rw [UInt8.lt_iff_toNat_lt]
    constructor
    · rintro (h | ⟨rfl, h⟩)
      · have := Nat.mul_le_mul_right (10 ^ m.length) (show a.toNat - 48 + 1 ≤ b.toNat - 48 by omega)
        rw [Nat.add_mul] at this
        omega
      · omega
    · intro h
      rcases Nat.lt_trichotomy a.toNat b.toNat with h3 | h3 | h3
      · exact .inl h3
      · have h3' := UInt8.toNat_inj.1 h3
        subst h3'
        exact .inr ⟨rfl, by omega⟩
      · exfalso
        have := Nat.mul_le_mul_right (10 ^ m.length) (show b.toNat - 48 + 1 ≤ a.toNat - 48 by omega)
        rw [Nat.add_mul] at this
        omega
/-- of rows of the same length that are worth the same, each is the other -/
theorem vals_inj : ∀ (l m : List UInt8), l.length = m.length → (∀ b ∈ l, dig b = true) → (∀ b ∈ m, dig b = true) → vals l = vals m → l = m
  | [], [], _, _, _, _ => rfl
  | a :: l, b :: m, hlen, hl, hm, he => by
    have hlen' : l.length = m.length := by simpa using hlen
    have ha := hl a (List.mem_cons_self ..)
    have hb := hm b (List.mem_cons_self ..)
    have h1 := vals_lt l fun x hx => hl x (List.mem_cons_of_mem _ hx)
    have h2 := vals_lt m fun x hx => hm x (List.mem_cons_of_mem _ hx)
    rw [vals_cons, vals_cons, hlen'] at he
    rw [hlen'] at h1
    simp [dig] at ha hb
    have h3 : a.toNat = b.toNat := by
      rcases Nat.lt_trichotomy a.toNat b.toNat with h | h | h
      · have := Nat.mul_le_mul_right (10 ^ m.length) (show a.toNat - 48 + 1 ≤ b.toNat - 48 by omega)
        rw [Nat.add_mul] at this
        omega
      · exact h
      · have := Nat.mul_le_mul_right (10 ^ m.length) (show b.toNat - 48 + 1 ≤ a.toNat - 48 by omega)
        rw [Nat.add_mul] at this
        omega
    rw [h3] at he
    rw [UInt8.toNat_inj.1 h3, vals_inj l m hlen' (fun x hx => hl x (List.mem_cons_of_mem _ hx)) (fun x hx => hm x (List.mem_cons_of_mem _ hx)) (by omega)]
end Dc
end Go.Proofs.YtmgkkbmcdnhdeabDoor
