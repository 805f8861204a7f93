/- How many bits: the library's count and ours. (with what it needs) -/
import Derived.Test.YthimchhnhhchkaaGreatDoorM04
import Derived.Test.YthimchhnhhchkaaGreatDoorM23
namespace Go.Proofs.YthimchhnhhchkaaGreatDoor
open Go.RowKit
set_option linter.unusedSimpArgs false
set_option linter.unusedVariables false

theorem bitLenAux_blen : ∀ (f n : Nat), n < 2 ^ f → Lib.bitLenAux f n = Bt.blen n
  | 0, n, h => by
    have : n = 0 := by simpa using h
    subst this; simp [Lib.bitLenAux, Bt.blen_zero]
  | f + 1, n, h => by
    rcases Nat.eq_zero_or_pos n with rfl | hp
    · simp [Lib.bitLenAux, Bt.blen_zero]
    · rw [Lib.bitLenAux, if_neg (by omega), bitLenAux_blen f (n / 2) (by rw [Nat.pow_succ] at h; omega), Bt.blen_pos n hp, Nat.add_comm]

theorem bitLen_blen (n : Nat) (h : n < 2 ^ 64) : Lib.bitLen n = Bt.blen n := bitLenAux_blen 64 n h

end Go.Proofs.YthimchhnhhchkaaGreatDoor

namespace Go.Proofs.YthimchhnhhchkaaGreatDoor
open Go.RowKit
set_option linter.unusedSimpArgs false
set_option linter.unusedVariables false

theorem blen_eq {n k : Nat} (h1 : 2 ^ k ≤ n) (h2 : n < 2 ^ (k + 1)) : Bt.blen n = k + 1 := by
  have := Bt.le_blen h1
  have := Bt.blen_le h2
  omega

theorem blen_hi (a : Nat) (h : 0 < hiN a) : Bt.blen a = 64 + Bt.blen (hiN a).toNat := by
  have e : (hiN a).toNat = a / 18446744073709551616 := by unfold hiN; omega
  have hp : 0 < a / 18446744073709551616 := by unfold hiN at h; omega
  rw [e]
  obtain ⟨s1, s2⟩ := Bt.blen_spec _ hp
  have h1 : 1 ≤ Bt.blen (a / 18446744073709551616) := by rw [Bt.blen_pos _ hp]; omega
  obtain ⟨k, hk⟩ : ∃ k, Bt.blen (a / 18446744073709551616) = k + 1 := ⟨_, (Nat.sub_add_cancel h1).symm⟩
  rw [hk] at s1 s2 ⊢
  rw [Nat.add_sub_cancel] at s1
  have e2 : 2 ^ (64 + k) = 18446744073709551616 * 2 ^ k := by rw [Nat.pow_add]
  have e3 : 2 ^ (64 + k + 1) = 18446744073709551616 * (2 ^ (k + 1)) := by rw [Nat.add_assoc, Nat.pow_add]
  exact (blen_eq (k := 64 + k) (by rw [e2]; omega) (by rw [e3]; omega)).trans (Nat.add_assoc _ _ _)

theorem blen_lo (a : Nat) (h : hiN a ≤ 0) : Bt.blen a = Bt.blen (loN a).toNat := by
  have e : (loN a).toNat = a := by unfold hiN at h; unfold loN; omega
  rw [e]

set_option maxRecDepth 100000 in
set_option maxHeartbeats 400000 in
theorem wide_len (ah al : Int) (a : Nat) (ha : WN ah al a) (w : World) :
    Calls Tryz.prog 46 #[.agg #[.int .u64 ah, .int .u64 al]] w fun e w' => e = .returned (.int .i64 (Bt.blen a)) ∧ Below w.heap.size w w' := by
  obtain ⟨rfl, rfl, ha⟩ := ha
  obtain ⟨a1, a2⟩ := hiN_bd a ha
  obtain ⟨a3, a4⟩ := loN_bd a
  have hb1 : Lib.bitLen (hiN a).toNat = Bt.blen (hiN a).toNat := bitLen_blen _ (by omega)
  have hb2 : Lib.bitLen (loN a).toNat = Bt.blen (loN a).toNat := bitLen_blen _ (by omega)
  have hb3 : Lib.bitLen (hiN a).toNat ≤ 64 := by rw [hb1]; exact Bt.blen_le (by omega)
  have HB1 := Lib.hid hb1
  have HB2 := Lib.hid hb2
  clear ha hb1 hb2
  by_cases h : 0 < hiN a
  · have HH := Lib.hid (blen_hi a h)
    go_enter Tryz.func46, Tryz.ntmps46
    go_wp2_with (go_at_call 98; refine (Tryz.bits_Len64 _ _ a1 a2).mono ?_; rintro e w' ⟨rfl, rfl⟩)
    go_ret
    exact ⟨ret_int (by rw [HH.out, ← HB1.out]; simp), (Below.refl _ _).alloc (Nat.le_refl _) _⟩
  · have HH := Lib.hid (blen_lo a (by omega))
    go_enter Tryz.func46, Tryz.ntmps46
    go_wp2_with (go_at_call 98; refine (Tryz.bits_Len64 _ _ a3 a4).mono ?_; rintro e w' ⟨rfl, rfl⟩)
    go_ret
    exact ⟨ret_int (by rw [HH.out, ← HB2.out]), (Below.refl _ _).alloc (Nat.le_refl _) _⟩

theorem wide_len_is (ah al : Int) (a n : Nat) (ha : WN ah al a) (hn : Bt.blen a = n) (w : World) :
    Calls Tryz.prog 46 #[.agg #[.int .u64 ah, .int .u64 al]] w fun e w' => e = .returned (.int .i64 n) ∧ Below w.heap.size w w' := by
  subst hn; exact wide_len ah al a ha w
theorem blen_one : Bt.blen 18446744073709551616 = 65 := blen_eq (k := 64) (by omega) (by omega)

end Go.Proofs.YthimchhnhhchkaaGreatDoor
