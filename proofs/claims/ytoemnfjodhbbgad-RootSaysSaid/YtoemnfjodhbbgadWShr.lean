/- wide.Shr. -/
import Derived.Test.YtoemnfjodhbbgadW0
import Derived.Laws.BitsAllLaws
namespace Go.Proofs.Ytoemnfjodhbbgad
open Go.RowKit
set_option linter.unusedSimpArgs false
set_option linter.unusedVariables false

theorem dmC {n vb q r : Nat} (h : n = vb * q + r) (hr : r < vb) : n / vb = q ∧ n % vb = r := by
  subst h
  refine ⟨?_, ?_⟩
  · rw [Nat.mul_add_div (by omega), Nat.div_eq_of_lt hr, Nat.add_zero]
  · rw [Nat.mul_add_mod, Nat.mod_eq_of_lt hr]

theorem shr_nat (h l k : Nat) (hk : k < 64) (hl : l < 18446744073709551616) :
    (h * 18446744073709551616 + l) / 2 ^ k / 18446744073709551616 = h / 2 ^ k ∧ (h * 18446744073709551616 + l) / 2 ^ k % 18446744073709551616 = h * 2 ^ (64 - k) % 18446744073709551616 + l / 2 ^ k ∧
    h * 2 ^ (64 - k) % 18446744073709551616 % 2 ^ (64 - k) = 0 ∧ l / 2 ^ k < 2 ^ (64 - k) := by
  have e : 2 ^ k * 2 ^ (64 - k) = 18446744073709551616 := by rw [← Nat.pow_add, show k + (64 - k) = 64 by omega]
  have hp : 0 < 2 ^ k := Nat.two_pow_pos k
  have hq : 0 < 2 ^ (64 - k) := Nat.two_pow_pos _
  have hy : l / 2 ^ k < 2 ^ (64 - k) := by rw [Nat.div_lt_iff_lt_mul hp, Nat.mul_comm, e]; exact hl
  have e1 : (h * 18446744073709551616 + l) / 2 ^ k = h * 2 ^ (64 - k) + l / 2 ^ k := by
    rw [← e, Nat.mul_left_comm, Nat.mul_add_div hp]
  have hd := Nat.div_add_mod h (2 ^ k)
  have hm : h % 2 ^ k < 2 ^ k := Nat.mod_lt _ hp
  have e2 : h * 2 ^ (64 - k) = 18446744073709551616 * (h / 2 ^ k) + 2 ^ (64 - k) * (h % 2 ^ k) := by
    rw [← e, Nat.mul_assoc, Nat.mul_left_comm (2 ^ k), ← Nat.mul_add, hd, Nat.mul_comm]
  have hb : 2 ^ (64 - k) * (h % 2 ^ k) + 2 ^ (64 - k) ≤ 18446744073709551616 := by
    rw [← e, ← Nat.mul_succ, Nat.mul_comm (2 ^ k)]; exact Nat.mul_le_mul_left _ hm
  obtain ⟨_, f2⟩ := dmC e2 (by omega)
  obtain ⟨f3, f4⟩ := dmC (n := h * 2 ^ (64 - k) + l / 2 ^ k) (vb := 18446744073709551616) (q := h / 2 ^ k) (r := 2 ^ (64 - k) * (h % 2 ^ k) + l / 2 ^ k) (by omega) (by omega)
  rw [e1, f3, f4, f2]
  exact ⟨rfl, rfl, Nat.mul_mod_right _ _, hy⟩

theorem shr_words (a k : Nat) (ha : a < 2 ^ 128) (hk : k < 64) :
    hiN a / 2 ^ k = hiN (a / 2 ^ k) ∧ bits BinOp.or IntKind.u64 (loN a / 2 ^ k) (IntKind.u64.wrap (hiN a * 2 ^ (64 - k))) = loN (a / 2 ^ k) := by
  have hm := Nat.div_add_mod a 18446744073709551616
  have hl : a % 18446744073709551616 < 18446744073709551616 := Nat.mod_lt _ (by decide)
  have e := shr_nat (a / 18446744073709551616) (a % 18446744073709551616) k hk hl
  rw [show a / 18446744073709551616 * 18446744073709551616 + a % 18446744073709551616 = a by omega] at e
  obtain ⟨e1, e2, e3, e4⟩ := e
  unfold hiN loN
  have c1 : ((a / 18446744073709551616 : Nat) : Int) * 2 ^ (64 - k) = ((a / 18446744073709551616 * 2 ^ (64 - k) : Nat) : Int) := by simp
  have c2 : ((a / 18446744073709551616 : Nat) : Int) / 2 ^ k = ((a / 18446744073709551616 / 2 ^ k : Nat) : Int) := by simp
  have c3 : ((a % 18446744073709551616 : Nat) : Int) / 2 ^ k = ((a % 18446744073709551616 / 2 ^ k : Nat) : Int) := by simp
  have cw : IntKind.u64.wrap ((a / 18446744073709551616 * 2 ^ (64 - k) : Nat) : Int) = ((a / 18446744073709551616 * 2 ^ (64 - k) % 18446744073709551616 : Nat) : Int) := by rw [IntKind.wrap_u64]; omega
  rw [c1, c2, c3, cw, e1, e2]
  have b1 : a % 18446744073709551616 / 2 ^ k < 18446744073709551616 := Nat.lt_of_le_of_lt (Nat.div_le_self _ _) hl
  refine ⟨rfl, ?_⟩
  rw [u64_or_nat _ _ b1 (Nat.mod_lt _ (by decide)), Nat.or_comm, nat_join (64 - k) _ _ e3 e4]

theorem shr_words_far (a k : Nat) (ha : a < 2 ^ 128) (hk : 64 ≤ k) : 0 = hiN (a / 2 ^ k) ∧ hiN a / 2 ^ (k - 64) = loN (a / 2 ^ k) := by
  have e : 2 ^ k = 18446744073709551616 * 2 ^ (k - 64) := by
    have : (18446744073709551616 : Nat) = 2 ^ 64 := by decide
    rw [this, ← Nat.pow_add, show 64 + (k - 64) = k by omega]
  rw [e, ← Nat.div_div_eq_div_mul]
  have h1 : a / 18446744073709551616 < 18446744073709551616 := by omega
  have h2 : a / 18446744073709551616 / 2 ^ (k - 64) < 18446744073709551616 := Nat.lt_of_le_of_lt (Nat.div_le_self _ _) h1
  unfold hiN loN
  rw [Nat.div_eq_of_lt h2, Nat.mod_eq_of_lt h2]
  exact ⟨rfl, by simp⟩

theorem shr_bad (ah al n : Int) (h : n < 0 ∨ 127 < n) (w : World) :
    Calls Try.prog 18 #[.agg #[.int .u64 ah, .int .u64 al], .int .i64 n] w fun e w' => e = .returned (.tuple #[.agg #[.int .u64 0, .int .u64 0], .int .i64 1]) ∧ Below w.heap.size w w' := by
  rcases h with h | h
  · go_enter Try.func18, Try.ntmps18
    go_wp2
    refine bodyPost_ret (v := .tuple #[.agg #[.int .u64 0, .int .u64 0], .int .i64 1]) (by simp [results, Try.results18, go_sem]) rfl ⟨rfl, ?_⟩
    exact ((Below.refl _ _).alloc (Nat.le_refl _) _).alloc (by simp) _
  · have h' : ¬ n < 0 := by omega
    go_enter Try.func18, Try.ntmps18
    go_wp2
    refine bodyPost_ret (v := .tuple #[.agg #[.int .u64 0, .int .u64 0], .int .i64 1]) (by simp [results, Try.results18, go_sem]) rfl ⟨rfl, ?_⟩
    exact ((Below.refl _ _).alloc (Nat.le_refl _) _).alloc (by simp) _

set_option maxHeartbeats 1000000 in
set_option maxRecDepth 100000 in
theorem shr_any (ah al : Int) (a : Nat) (n : Int) (ha : WN ah al a) (h0 : 0 ≤ n) (h1 : n ≤ 127) (w : World) :
    Calls Try.prog 18 #[.agg #[.int .u64 ah, .int .u64 al], .int .i64 n] w fun e w' =>
      e = .returned (.tuple #[.agg #[.int .u64 (hiN (a / 2 ^ n.toNat)), .int .u64 (loN (a / 2 ^ n.toNat))], .int .i64 0]) ∧ Below w.heap.size w w' := by
  obtain ⟨rfl, rfl, ha⟩ := ha
  obtain ⟨k, rfl⟩ := Int.eq_ofNat_of_zero_le h0
  rw [Int.toNat_natCast]
  obtain ⟨a1, a2⟩ := hiN_bd a ha
  obtain ⟨a3, a4⟩ := loN_bd a
  have HA := Lib.hid ha
  clear ha
  rcases Nat.lt_or_ge k 64 with hk | hk
  · obtain ⟨u1, u2⟩ := shr_words a k HA.out hk
    have U1 := Lib.hid u1
    have U2 := Lib.hid u2
    clear u1 u2
    go_enter Try.func18, Try.ntmps18
    go_wp2
    go_region
    go_wp2
    rw [U1.out, U2.out]
    refine bodyPost_ret (v := .tuple #[.agg #[.int .u64 (hiN (a / 2 ^ k)), .int .u64 (loN (a / 2 ^ k))], .int .i64 0]) (by simp [results, Try.results18, go_sem]) rfl ⟨rfl, ?_⟩
    exact (((Below.refl _ _).alloc (Nat.le_refl _) _).alloc (by simp) _).drew
  · obtain ⟨u1, u2⟩ := shr_words_far a k HA.out hk
    have U1 := Lib.hid u1
    have U2 := Lib.hid u2
    clear u1 u2
    go_enter Try.func18, Try.ntmps18
    go_wp2
    rw [← U1.out, ← U2.out]
    refine bodyPost_ret (v := .tuple #[.agg #[.int .u64 0, .int .u64 (hiN a / 2 ^ (k - 64))], .int .i64 0]) (by simp [results, Try.results18, go_sem]) rfl ⟨rfl, ?_⟩
    exact ((Below.refl _ _).alloc (Nat.le_refl _) _).alloc (by simp) _
end Go.Proofs.Ytoemnfjodhbbgad
