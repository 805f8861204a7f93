/- wide.Sub. -/
import Derived.Test.YtmgkkbmcdnhdeabDoorW0
import Derived.Shelf.Spec.BitsCarry
namespace Go.Proofs.YtmgkkbmcdnhdeabDoor
open Go.RowKit
set_option linter.unusedSimpArgs false
set_option linter.unusedVariables false

theorem sub64 (x y b : Int) (hx : 0 ≤ x) (hy : 0 ≤ y) (hy' : y ≤ 18446744073709551615) (hb0 : 0 ≤ b) (hb : b ≤ 1) (w : World) :
    (callFunc 41 #[.int .u64 x, .int .u64 y, .int .u64 b]).run Tryd.prog w = .ok (.value (.tuple #[.int .u64 (d64 x y b), .int .u64 (b64 x y b)])) w := by
  obtain ⟨x, rfl⟩ := Int.eq_ofNat_of_zero_le hx
  obtain ⟨y, rfl⟩ := Int.eq_ofNat_of_zero_le hy
  obtain ⟨b, rfl⟩ := Int.eq_ofNat_of_zero_le hb0
  have e1 : (((x + 18446744073709551616 - y - b) % 18446744073709551616 : Nat) : Int) = ((x : Int) - y - b) % 18446744073709551616 := by omega
  have e2 : ((if x < y + b then 1 else 0 : Nat) : Int) = if (x : Int) < y + b then 1 else 0 := by split <;> split <;> omega
  unfold d64 b64
  rw [← e1, ← e2]
  rw [run_callFunc_extern Tryd.func41 (by kernel_rfl) (by kernel_rfl) (by kernel_rfl) (e := sub64Entry) (by kernel_rfl), run_sub64 x y b (by omega)]
  rfl

theorem sub_words (a b : Nat) (h : b ≤ a) : d64 (loN a) (loN b) 0 = loN (a - b) ∧ d64 (hiN a) (hiN b) (b64 (loN a) (loN b) 0) = hiN (a - b) % 18446744073709551616 ∧
    (b64 (hiN a) (hiN b) (b64 (loN a) (loN b) 0) = 0) := by
  unfold d64 b64 hiN loN
  refine ⟨by omega, by split <;> omega, by split <;> split <;> omega⟩

set_option maxHeartbeats 400000 in
theorem wide_sub_ok (ah al bh bl : Int) (a b : Nat) (ha : WN ah al a) (hb : WN bh bl b) (h : b ≤ a) (w : World) :
    Calls Tryd.prog 32 #[.agg #[.int .u64 ah, .int .u64 al], .agg #[.int .u64 bh, .int .u64 bl]] w fun e w' =>
      e = .returned (.tuple #[.agg #[.int .u64 (hiN (a - b)), .int .u64 (loN (a - b))], .int .i64 0]) ∧ Below w.heap.size w w' := by
  obtain ⟨rfl, rfl, ha⟩ := ha
  obtain ⟨rfl, rfl, hb⟩ := hb
  obtain ⟨e1, e2, e3⟩ := sub_words a b h
  obtain ⟨a1, a2⟩ := hiN_bd a ha
  obtain ⟨a3, a4⟩ := loN_bd a
  obtain ⟨b1, b2⟩ := hiN_bd b hb
  obtain ⟨b3, b4⟩ := loN_bd b
  obtain ⟨k0, k1⟩ := b64_bd (loN a) (loN b) 0
  have hm := hiN_bd (a - b) (by omega)
  rw [show hiN (a - b) % 18446744073709551616 = hiN (a - b) by omega] at e2
  have E1 := Lib.hid e1
  have E2 := Lib.hid e2
  have hk : b64 (hiN a) (hiN b) (b64 (loN a) (loN b) 0) ≤ 0 := by omega
  clear e1 e2 e3 ha hb h hm
  go_enter Tryd.func32, Tryd.ntmps32
  go_wp2_with (first | simp only [sub64 (loN a) (loN b) 0 a3 b3 b4 (Int.le_refl 0) (by decide)] | simp only [sub64 (hiN a) (hiN b) _ a1 b1 b2 k0 k1])
  rw [E1.out, E2.out]
  refine bodyPost_ret (v := .tuple #[.agg #[.int .u64 (hiN (a - b)), .int .u64 (loN (a - b))], .int .i64 0]) (by simp [results, Tryd.results32, go_sem]) rfl ⟨rfl, ?_⟩
  exact (((Below.refl _ _).alloc (Nat.le_refl _) _).alloc (by simp) _).alloc (by simp; omega) _

set_option maxHeartbeats 400000 in
theorem wide_sub_sign (ah al bh bl : Int) (a b : Nat) (ha : WN ah al a) (hb : WN bh bl b) (h : a < b) (w : World) :
    Calls Tryd.prog 32 #[.agg #[.int .u64 ah, .int .u64 al], .agg #[.int .u64 bh, .int .u64 bl]] w fun e w' =>
      e = .returned (.tuple #[.agg #[.int .u64 0, .int .u64 0], .int .i64 7]) ∧ Below w.heap.size w w' := by
  obtain ⟨rfl, rfl, ha⟩ := ha
  obtain ⟨rfl, rfl, hb⟩ := hb
  obtain ⟨a1, a2⟩ := hiN_bd a ha
  obtain ⟨a3, a4⟩ := loN_bd a
  obtain ⟨b1, b2⟩ := hiN_bd b hb
  obtain ⟨b3, b4⟩ := loN_bd b
  obtain ⟨k0, k1⟩ := b64_bd (loN a) (loN b) 0
  have hk : 0 < b64 (hiN a) (hiN b) (b64 (loN a) (loN b) 0) := by
    unfold b64 hiN loN
    split <;> split <;> omega
  clear ha hb h
  go_enter Tryd.func32, Tryd.ntmps32
  go_wp2_with (first | simp only [sub64 (loN a) (loN b) 0 a3 b3 b4 (Int.le_refl 0) (by decide)] | simp only [sub64 (hiN a) (hiN b) _ a1 b1 b2 k0 k1])
  refine bodyPost_ret (v := .tuple #[.agg #[.int .u64 0, .int .u64 0], .int .i64 7]) (by simp [results, Tryd.results32, go_sem]) rfl ⟨rfl, ?_⟩
  exact (((Below.refl _ _).alloc (Nat.le_refl _) _).alloc (by simp) _).alloc (by simp; omega) _

theorem wide_sub_any (ah al bh bl : Int) (a b : Nat) (ha : WN ah al a) (hb : WN bh bl b) (w : World) :
    Calls Tryd.prog 32 #[.agg #[.int .u64 ah, .int .u64 al], .agg #[.int .u64 bh, .int .u64 bl]] w fun e w' =>
      e = .returned (.tuple #[.agg #[.int .u64 (hiN (a - b)), .int .u64 (loN (a - b))], .int .i64 (subE a b)]) ∧ Below w.heap.size w w' := by
  unfold subE
  by_cases h : b ≤ a
  · rw [if_pos h]; exact wide_sub_ok ah al bh bl a b ha hb h w
  · rw [if_neg h]
    have e : a - b = 0 := by omega
    rw [e]
    exact wide_sub_sign ah al bh bl a b ha hb (by omega) w

end Go.Proofs.YtmgkkbmcdnhdeabDoor
