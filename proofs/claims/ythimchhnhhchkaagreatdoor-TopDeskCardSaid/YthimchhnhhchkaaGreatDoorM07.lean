/- wide.Up. -/
import Derived.Test.YthimchhnhhchkaaGreatDoorM04
import Derived.Laws.BitsAllLaws
namespace Go.Proofs.YthimchhnhhchkaaGreatDoor
open Go.RowKit
set_option linter.unusedSimpArgs false
set_option linter.unusedVariables false

theorem dmB {n vb q r : Nat} (h : n = vb * q + r) (hr : r < vb) : n / vb = q ∧ n % vb = r := by
  subst h
  refine ⟨?_, ?_⟩
  · rw [Nat.mul_add_div (by omega), Nat.div_eq_of_lt hr, Nat.add_zero]
  · rw [Nat.mul_add_mod, Nat.mod_eq_of_lt hr]

theorem pq (k : Nat) (hk : k ≤ 64) : 2 ^ k * 2 ^ (64 - k) = 18446744073709551616 := by
  rw [← Nat.pow_add, show k + (64 - k) = 64 by omega]

/-- x * 2^k, k at most 64, by 2^64: what goes out above, and what stays. -/
theorem shl_parts (x k : Nat) (hk : k ≤ 64) : x * 2 ^ k / 18446744073709551616 = x / 2 ^ (64 - k) ∧ x * 2 ^ k % 18446744073709551616 = 2 ^ k * (x % 2 ^ (64 - k)) := by
  have e := pq k hk
  have hp : 0 < 2 ^ k := Nat.two_pow_pos k
  rw [← e, Nat.mul_comm x]
  exact ⟨Nat.mul_div_mul_left _ _ hp, Nat.mul_mod_mul_left _ _ _⟩

theorem up_nat (h l k : Nat) (hk : k < 64) (hl : l < 18446744073709551616) :
    ((h * 18446744073709551616 + l) * 2 ^ k % 2 ^ 128) / 18446744073709551616 = h * 2 ^ k % 18446744073709551616 + l / 2 ^ (64 - k) ∧
    ((h * 18446744073709551616 + l) * 2 ^ k % 2 ^ 128) % 18446744073709551616 = l * 2 ^ k % 18446744073709551616 ∧
    h * 2 ^ k % 18446744073709551616 % 2 ^ k = 0 ∧ l / 2 ^ (64 - k) < 2 ^ k := by
  have e := pq k (by omega)
  obtain ⟨s1, s2⟩ := shl_parts l k (by omega)
  obtain ⟨t1, t2⟩ := shl_parts h k (by omega)
  have hy : l / 2 ^ (64 - k) < 2 ^ k := by
    rw [Nat.div_lt_iff_lt_mul (Nat.two_pow_pos _), e]; exact hl
  have hq : h % 2 ^ (64 - k) < 2 ^ (64 - k) := Nat.mod_lt _ (Nat.two_pow_pos _)
  have e0 : (h * 18446744073709551616 + l) * 2 ^ k = 18446744073709551616 * (h * 2 ^ k) + l * 2 ^ k := by
    rw [Nat.add_mul, Nat.mul_comm h, Nat.mul_assoc]
  have e2 : (2 : Nat) ^ 128 = 18446744073709551616 * 18446744073709551616 := by decide
  have e3 : (h * 18446744073709551616 + l) * 2 ^ k / 18446744073709551616 = h * 2 ^ k + l / 2 ^ (64 - k) := by
    rw [e0, Nat.mul_add_div (by decide), s1]
  have e4 : (h * 18446744073709551616 + l) * 2 ^ k % 18446744073709551616 = l * 2 ^ k % 18446744073709551616 := by
    rw [e0, Nat.mul_add_mod]
  refine ⟨?_, ?_, ?_, hy⟩
  · rw [e2, Nat.mod_mul_right_div_self, e3]
    have hb : h * 2 ^ k % 18446744073709551616 + l / 2 ^ (64 - k) < 18446744073709551616 := by
      rw [t2]
      have : 2 ^ k * (h % 2 ^ (64 - k)) + 2 ^ k ≤ 2 ^ k * 2 ^ (64 - k) := by
        rw [← Nat.mul_succ]; exact Nat.mul_le_mul_left _ hq
      omega
    have hd := Nat.div_add_mod (h * 2 ^ k) 18446744073709551616
    exact (dmB (q := h * 2 ^ k / 18446744073709551616) (by omega) hb).2
  · rw [e2, Nat.mod_mul_right_mod, e4]
  · rw [t2, Nat.mul_mod_right]

theorem up_nat_far (a k : Nat) (hk : 64 ≤ k) :
    (a * 2 ^ k % 2 ^ 128) / 18446744073709551616 = (a % 18446744073709551616) * 2 ^ (k - 64) % 18446744073709551616 ∧ (a * 2 ^ k % 2 ^ 128) % 18446744073709551616 = 0 := by
  have e : 2 ^ k = 2 ^ (k - 64) * 18446744073709551616 := by
    have : (18446744073709551616 : Nat) = 2 ^ 64 := by decide
    rw [this, ← Nat.pow_add, Nat.sub_add_cancel hk]
  have e2 : (2 : Nat) ^ 128 = 18446744073709551616 * 18446744073709551616 := by decide
  rw [e, e2, ← Nat.mul_assoc, Nat.mod_mul_right_div_self, Nat.mod_mul_right_mod, Nat.mul_div_cancel _ (by decide)]
  refine ⟨?_, by simp⟩
  conv => lhs; rw [Nat.mul_mod]
  conv => rhs; rw [Nat.mul_mod, Nat.mod_mod]

theorem wrap_nat (x : Nat) : IntKind.u64.wrap (x : Int) = ((x % 18446744073709551616 : Nat) : Int) := by rw [IntKind.wrap_u64]; omega

theorem up_words (a k : Nat) (ha : a < 2 ^ 128) (hk : k < 64) :
    bits BinOp.or IntKind.u64 (IntKind.u64.wrap (hiN a * 2 ^ k)) (loN a / 2 ^ (64 - k)) = hiN (a * 2 ^ k % 2 ^ 128) ∧ IntKind.u64.wrap (loN a * 2 ^ k) = loN (a * 2 ^ k % 2 ^ 128) := by
  have hm := Nat.div_add_mod a 18446744073709551616
  have hl : a % 18446744073709551616 < 18446744073709551616 := Nat.mod_lt _ (by decide)
  have e := up_nat (a / 18446744073709551616) (a % 18446744073709551616) k hk hl
  rw [show a / 18446744073709551616 * 18446744073709551616 + a % 18446744073709551616 = a by omega] at e
  obtain ⟨e1, e2, e3, e4⟩ := e
  unfold hiN loN
  have c1 : ((a / 18446744073709551616 : Nat) : Int) * 2 ^ k = ((a / 18446744073709551616 * 2 ^ k : Nat) : Int) := by simp
  have c2 : ((a % 18446744073709551616 : Nat) : Int) * 2 ^ k = ((a % 18446744073709551616 * 2 ^ k : Nat) : Int) := by simp
  have c3 : ((a % 18446744073709551616 : Nat) : Int) / 2 ^ (64 - k) = ((a % 18446744073709551616 / 2 ^ (64 - k) : Nat) : Int) := by simp
  rw [c1, c2, c3, wrap_nat, wrap_nat, e1, e2]
  have b1 : a % 18446744073709551616 / 2 ^ (64 - k) < 18446744073709551616 := Nat.lt_of_le_of_lt (Nat.div_le_self _ _) hl
  refine ⟨?_, rfl⟩
  rw [u64_or_nat _ _ (Nat.mod_lt _ (by decide)) b1, nat_join k _ _ e3 e4]

theorem up_words_far (a k : Nat) (hk : 64 ≤ k) : IntKind.u64.wrap (loN a * 2 ^ (k - 64)) = hiN (a * 2 ^ k % 2 ^ 128) ∧ 0 = loN (a * 2 ^ k % 2 ^ 128) := by
  obtain ⟨e1, e2⟩ := up_nat_far a k hk
  unfold hiN loN
  rw [e1, e2]
  have c2 : ((a % 18446744073709551616 : Nat) : Int) * 2 ^ (k - 64) = ((a % 18446744073709551616 * 2 ^ (k - 64) : Nat) : Int) := by simp
  rw [c2, wrap_nat]
  exact ⟨rfl, rfl⟩

set_option maxRecDepth 100000 in
set_option maxHeartbeats 1000000 in
theorem wide_up (ah al : Int) (a : Nat) (n : Int) (ha : WN ah al a) (h0 : 0 ≤ n) (h1 : n ≤ 127) (w : World) :
    Calls Tryz.prog 96 #[.agg #[.int .u64 ah, .int .u64 al], .int .i64 n] w fun e w' => e = .returned (.agg #[.int .u64 (hiN (a * 2 ^ n.toNat % 2 ^ 128)), .int .u64 (loN (a * 2 ^ n.toNat % 2 ^ 128))]) ∧ Below w.heap.size w w' := by
  obtain ⟨rfl, rfl, ha⟩ := ha
  obtain ⟨a1, a2⟩ := hiN_bd a ha
  obtain ⟨a3, a4⟩ := loN_bd a
  obtain ⟨k, rfl⟩ := Int.eq_ofNat_of_zero_le h0
  rw [Int.toNat_natCast]
  have HA := Lib.hid ha
  clear ha
  rcases Nat.lt_or_ge k 64 with hk | hk
  · go_enter Tryz.func96, Tryz.ntmps96
    go_wp2
    go_region
    go_wp2
    obtain ⟨u1, u2⟩ := up_words a k HA.out hk
    rw [u1, u2]
    refine bodyPost_ret (v := .agg #[.int .u64 (hiN (a * 2 ^ k % 2 ^ 128)), .int .u64 (loN (a * 2 ^ k % 2 ^ 128))]) (by simp [results, Tryz.results96, go_sem]) rfl ⟨rfl, ?_⟩
    exact (((Below.refl _ _).alloc (Nat.le_refl _) _).alloc (by simp) _).drew
  · go_enter Tryz.func96, Tryz.ntmps96
    go_wp2
    obtain ⟨u1, u2⟩ := up_words_far a k hk
    rw [← u1, ← u2]
    refine bodyPost_ret (v := .agg #[.int .u64 (IntKind.u64.wrap (loN a * 2 ^ (k - 64))), .int .u64 0]) (by simp [results, Tryz.results96, go_sem]) rfl ⟨rfl, ?_⟩
    exact ((Below.refl _ _).alloc (Nat.le_refl _) _).alloc (by simp) _
end Go.Proofs.YthimchhnhhchkaaGreatDoor
