/- wide.Shl. -/
import Derived.Test.YtljnmginngodkadWUp
import Derived.Test.YtljnmginngodkadWLen
namespace Go.Proofs.Ytljnmginngodkad
open Go.RowKit
set_option linter.unusedSimpArgs false
set_option linter.unusedVariables false

theorem shl_large {a k : Nat} (h0 : a ≠ 0) (h : 128 < Bt.blen a + k) : 2 ^ 128 ≤ a * 2 ^ k := by
  have h1 := (Bt.blen_spec a (by omega)).1
  have h2 : 1 ≤ Bt.blen a := by rw [Bt.blen_pos _ (by omega)]; omega
  have h3 : 2 ^ 128 ≤ 2 ^ (Bt.blen a - 1 + k) := Bt.pow_le_pow (by omega)
  rw [Nat.pow_add] at h3
  exact Nat.le_trans h3 (Nat.mul_le_mul_right _ h1)

theorem shl_fits {a k : Nat} (h : Bt.blen a + k ≤ 128) : a * 2 ^ k < 2 ^ 128 := by
  have h1 := Bt.lt_blen a
  have h3 : 2 ^ (Bt.blen a + k) ≤ 2 ^ 128 := Bt.pow_le_pow h
  rw [Nat.pow_add] at h3
  exact Nat.lt_of_lt_of_le (Nat.mul_lt_mul_of_pos_right h1 (Nat.two_pow_pos k)) h3

theorem shl_bad (ah al n : Int) (h : n < 0 ∨ 127 < n) (w : World) :
    Calls Try.prog 4 #[.agg #[.int .u64 ah, .int .u64 al], .int .i64 n] w fun e w' => e = .returned (.tuple #[.agg #[.int .u64 0, .int .u64 0], .int .i64 1]) ∧ Below w.heap.size w w' := by
  rcases h with h | h
  · go_enter Try.func4, Try.ntmps4
    go_wp2
    refine bodyPost_ret (v := .tuple #[.agg #[.int .u64 0, .int .u64 0], .int .i64 1]) (by simp [results, Try.results4, go_sem]) rfl ⟨rfl, ?_⟩
    exact ((Below.refl _ _).alloc (Nat.le_refl _) _).alloc (by simp) _
  · have h' : ¬ n < 0 := by omega
    go_enter Try.func4, Try.ntmps4
    go_wp2
    refine bodyPost_ret (v := .tuple #[.agg #[.int .u64 0, .int .u64 0], .int .i64 1]) (by simp [results, Try.results4, go_sem]) rfl ⟨rfl, ?_⟩
    exact ((Below.refl _ _).alloc (Nat.le_refl _) _).alloc (by simp) _

set_option maxHeartbeats 1000000 in
set_option maxRecDepth 100000 in
theorem shl_any (ah al : Int) (a : Nat) (n : Int) (ha : WN ah al a) (h0 : 0 ≤ n) (h1 : n ≤ 127) (w : World) :
    Calls Try.prog 4 #[.agg #[.int .u64 ah, .int .u64 al], .int .i64 n] w fun e w' =>
      e = .returned (.tuple #[.agg #[.int .u64 (hiN (fitN (a * 2 ^ n.toNat))), .int .u64 (loN (fitN (a * 2 ^ n.toNat)))], .int .i64 (fitE (a * 2 ^ n.toNat))]) ∧ Below w.heap.size w w' := by
  have HW := Lib.hid ha
  obtain ⟨rfl, rfl, ha⟩ := ha
  obtain ⟨k, rfl⟩ := Int.eq_ofNat_of_zero_le h0
  rw [Int.toNat_natCast]
  have E := Lib.hid (((Env.start w).lay #[.int .u64 (hiN a), .int .u64 (loN a)] 24).lay #[.int .u64 0, .int .u64 0] 24)
  simp only [World.size_alloc] at E
  have hbl : Bt.blen a ≤ 128 := Bt.blen_le ha
  clear ha
  by_cases hl : 128 < Bt.blen a + k ∧ a ≠ 0
  · obtain ⟨hl1, hl2⟩ := hl
    have hx := shl_large hl2 hl1
    have HF : Hid (fitN (a * 2 ^ k) = 0 ∧ fitE (a * 2 ^ k) = 2) := Lib.hid ⟨if_neg (by omega), if_neg (by omega)⟩
    have hcase : ((hiN a == 0) = true ∧ (loN a == 0) = false) ∨ (hiN a == 0) = false := by
      by_cases h1 : hiN a = 0
      · left; simp [h1]; intro h2; exact hl2 (by unfold hiN at h1; unfold loN at h2; omega)
      · right; simpa using h1
    clear hx hl2
    rcases hcase with ⟨t1, t2⟩ | t1
    all_goals
      go_enter Try.func4, Try.ntmps4
      go_wp2_with fail
      refine (wide_len _ _ a HW.out _).mono ?_
      rintro e w1 ⟨rfl, hb1⟩
      have E1 := Lib.hid (E.out.below hb1)
      clear hb1
      have p0 := E1.out.hd.lt
      have p1 := E1.out.tl.hd.lt
      have a0 := E1.out.tl.hd.cell 0
      have a1 := E1.out.tl.hd.cell 1
      have b0 := E1.out.hd.cell 0
      have b1 := E1.out.hd.cell 1
      have f0 := E1.out.hd.frozen 0
      have f1 := E1.out.hd.frozen 1
      simp at a0 a1 b0 b1
      go_wp2
      rw [HF.out.1, HF.out.2]
      refine bodyPost_ret (v := .tuple #[.agg #[.int .u64 0, .int .u64 0], .int .i64 2]) (by simp [results, Try.results4, go_sem, b0, b1]) rfl ⟨by simp [hiN, loN], ?_⟩
      exact (E1.out.bel.setCell (by simp) _).setCell (by simp) _
  · have hx : a * 2 ^ k < 2 ^ 128 := by
      by_cases h0 : a = 0
      · subst h0; simp
      · exact shl_fits (by omega)
    have HF : Hid (fitN (a * 2 ^ k) = a * 2 ^ k ∧ fitE (a * 2 ^ k) = 0 ∧ a * 2 ^ k % 2 ^ 128 = a * 2 ^ k) := Lib.hid ⟨if_pos hx, if_pos hx, Nat.mod_eq_of_lt hx⟩
    have hcase : (Bt.blen a + k ≤ 128) ∨ (128 < Bt.blen a + k ∧ (hiN a == 0) = true ∧ (loN a == 0) = true) := by
      by_cases h0 : a = 0
      · subst h0; left; simp [Bt.blen_zero]; omega
      · left; omega
    clear hx hl
    rcases hcase with t1 | ⟨t1, t2, t3⟩
    · go_enter Try.func4, Try.ntmps4
      go_wp2_with fail
      refine (wide_len _ _ a HW.out _).mono ?_
      rintro e w1 ⟨rfl, hb1⟩
      have E1 := Lib.hid (E.out.below hb1)
      clear hb1
      have p0 := E1.out.hd.lt
      have p1 := E1.out.tl.hd.lt
      have a0 := E1.out.tl.hd.cell 0
      have a1 := E1.out.tl.hd.cell 1
      simp at a0 a1
      go_wp2_with fail
      refine (wide_up _ _ a _ HW.out (by omega) (by omega) _).mono ?_
      rintro e w2 ⟨rfl, hb2⟩
      rw [Int.toNat_natCast, HF.out.2.2]
      have E2 := Lib.hid (E1.out.below hb2)
      clear hb2 a0 a1 p0 p1
      have p0 := E2.out.hd.lt
      have b0 := E2.out.hd.cell 0
      have b1 := E2.out.hd.cell 1
      have f0 := E2.out.hd.frozen 0
      have f1 := E2.out.hd.frozen 1
      simp at b0 b1
      go_wp2
      rw [HF.out.1, HF.out.2.1]
      refine bodyPost_ret (v := .tuple #[.agg #[.int .u64 (hiN (a * 2 ^ k)), .int .u64 (loN (a * 2 ^ k))], .int .i64 0]) (by simp [results, Try.results4, go_sem, b0, b1]) rfl ⟨rfl, ?_⟩
      exact (E2.out.bel.setCell (by simp) _).setCell (by simp) _
    · exfalso
      have : a = 0 := by simp at t2 t3; unfold hiN at t2; unfold loN at t3; omega
      subst this
      rw [Bt.blen_zero] at t1
      omega

end Go.Proofs.Ytljnmginngodkad
