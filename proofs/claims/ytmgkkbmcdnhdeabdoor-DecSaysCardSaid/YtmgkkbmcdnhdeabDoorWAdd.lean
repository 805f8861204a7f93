/- wide.Add. -/
import Derived.Test.YtmgkkbmcdnhdeabDoorW0
namespace Go.Proofs.YtmgkkbmcdnhdeabDoor
open Go.RowKit
set_option linter.unusedSimpArgs false
set_option linter.unusedVariables false

theorem add64 (x y c : Int) (hx : 0 ≤ x) (hy : 0 ≤ y) (hc0 : 0 ≤ c) (hc : c ≤ 1) (w : World) :
    (callFunc 20 #[.int .u64 x, .int .u64 y, .int .u64 c]).run Tryd.prog w = .ok (.value (.tuple #[.int .u64 (s64 x y c), .int .u64 (k64 x y c)])) w := by
  rw [run_callFunc_extern Tryd.func20 (by kernel_rfl) (by kernel_rfl) (by kernel_rfl) (e := add64Entry) (by kernel_rfl), run_add64 x y c hx hy hc0 hc]
  rfl

theorem add_words (a b : Nat) : s64 (loN a) (loN b) 0 = loN (a + b) ∧ s64 (hiN a) (hiN b) (k64 (loN a) (loN b) 0) = hiN ((a + b) % 2 ^ 128) ∧
    (k64 (hiN a) (hiN b) (k64 (loN a) (loN b) 0) = ((a + b) / 2 ^ 128 : Nat)) := by
  unfold s64 k64 hiN loN; omega

set_option maxHeartbeats 400000 in
theorem wide_add_ok (ah al bh bl : Int) (a b : Nat) (ha : WN ah al a) (hb : WN bh bl b) (h : a + b < 2 ^ 128) (w : World) :
    Calls Tryd.prog 9 #[.agg #[.int .u64 ah, .int .u64 al], .agg #[.int .u64 bh, .int .u64 bl]] w fun e w' =>
      e = .returned (.tuple #[.agg #[.int .u64 (hiN (a + b)), .int .u64 (loN (a + b))], .int .i64 0]) ∧ Below w.heap.size w w' := by
  obtain ⟨rfl, rfl, ha⟩ := ha
  obtain ⟨rfl, rfl, hb⟩ := hb
  obtain ⟨e1, e2, e3⟩ := add_words a b
  rw [Nat.mod_eq_of_lt h] at e2
  rw [Nat.div_eq_of_lt h] at e3
  obtain ⟨a1, a2⟩ := hiN_bd a ha
  obtain ⟨a3, a4⟩ := loN_bd a
  obtain ⟨b1, b2⟩ := hiN_bd b hb
  obtain ⟨b3, b4⟩ := loN_bd b
  obtain ⟨k0, k1⟩ := k64_bd (loN a) (loN b) 0 ⟨a3, a4⟩ ⟨b3, b4⟩ (by omega)
  have E1 := Lib.hid e1
  have E2 := Lib.hid e2
  have hk : k64 (hiN a) (hiN b) (k64 (loN a) (loN b) 0) ≤ 0 := by omega
  clear e1 e2 e3 ha hb h
  go_enter Tryd.func9, Tryd.ntmps9
  go_wp2_with (first | simp only [add64 (loN a) (loN b) 0 a3 b3 (Int.le_refl 0) (by decide)] | simp only [add64 (hiN a) (hiN b) _ a1 b1 k0 k1])
  rw [E1.out, E2.out]
  refine bodyPost_ret (v := .tuple #[.agg #[.int .u64 (hiN (a + b)), .int .u64 (loN (a + b))], .int .i64 0]) (by simp [results, Tryd.results9, go_sem]) rfl ⟨rfl, ?_⟩
  exact (((Below.refl _ _).alloc (Nat.le_refl _) _).alloc (by simp) _).alloc (by simp; omega) _

set_option maxHeartbeats 400000 in
theorem wide_add_large (ah al bh bl : Int) (a b : Nat) (ha : WN ah al a) (hb : WN bh bl b) (h : 2 ^ 128 ≤ a + b) (w : World) :
    Calls Tryd.prog 9 #[.agg #[.int .u64 ah, .int .u64 al], .agg #[.int .u64 bh, .int .u64 bl]] w fun e w' =>
      e = .returned (.tuple #[.agg #[.int .u64 0, .int .u64 0], .int .i64 2]) ∧ Below w.heap.size w w' := by
  obtain ⟨rfl, rfl, ha⟩ := ha
  obtain ⟨rfl, rfl, hb⟩ := hb
  obtain ⟨e1, e2, e3⟩ := add_words a b
  obtain ⟨a1, a2⟩ := hiN_bd a ha
  obtain ⟨a3, a4⟩ := loN_bd a
  obtain ⟨b1, b2⟩ := hiN_bd b hb
  obtain ⟨b3, b4⟩ := loN_bd b
  obtain ⟨k0, k1⟩ := k64_bd (loN a) (loN b) 0 ⟨a3, a4⟩ ⟨b3, b4⟩ (by omega)
  have hk : 0 < k64 (hiN a) (hiN b) (k64 (loN a) (loN b) 0) := by
    rw [e3]
    have : 1 ≤ (a + b) / 2 ^ 128 := by rw [Nat.le_div_iff_mul_le (by decide)]; omega
    omega
  clear e1 e2 e3 ha hb h
  go_enter Tryd.func9, Tryd.ntmps9
  go_wp2_with (first | simp only [add64 (loN a) (loN b) 0 a3 b3 (Int.le_refl 0) (by decide)] | simp only [add64 (hiN a) (hiN b) _ a1 b1 k0 k1])
  refine bodyPost_ret (v := .tuple #[.agg #[.int .u64 0, .int .u64 0], .int .i64 2]) (by simp [results, Tryd.results9, go_sem]) rfl ⟨rfl, ?_⟩
  exact (((Below.refl _ _).alloc (Nat.le_refl _) _).alloc (by simp) _).alloc (by simp; omega) _

theorem wide_add_any (ah al bh bl : Int) (a b : Nat) (ha : WN ah al a) (hb : WN bh bl b) (w : World) :
    Calls Tryd.prog 9 #[.agg #[.int .u64 ah, .int .u64 al], .agg #[.int .u64 bh, .int .u64 bl]] w fun e w' =>
      e = .returned (.tuple #[.agg #[.int .u64 (hiN (fitN (a + b))), .int .u64 (loN (fitN (a + b)))], .int .i64 (fitE (a + b))]) ∧ Below w.heap.size w w' := by
  unfold fitN fitE
  by_cases h : a + b < 2 ^ 128
  · rw [if_pos h, if_pos h]; exact wide_add_ok ah al bh bl a b ha hb h w
  · rw [if_neg h, if_neg h]; exact wide_add_large ah al bh bl a b ha hb (by omega) w

end Go.Proofs.YtmgkkbmcdnhdeabDoor
