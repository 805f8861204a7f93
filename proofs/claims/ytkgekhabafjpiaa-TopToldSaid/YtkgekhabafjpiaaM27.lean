/- prod.Div, walked: a divisor of more than 64 bits, bit by bit. -/
import Derived.Test.YtkgekhabafjpiaaM26
import Derived.Test.YtkgekhabafjpiaaM10
import Derived.Deep.DeepCutAuto
namespace Go.Proofs.Ytkgekhabafjpiaa
open Go.RowKit
set_option linter.unusedSimpArgs false
set_option linter.unusedVariables false

namespace Lg
/-- between two bits: a is q times b and r, r has no more than j bits to go, q has its lowest j bits open -/
def Inv (a b j q r : Nat) : Prop := a = q * b + r ∧ r < b * 2 ^ j ∧ ∃ m, q = 2 ^ j * m
theorem start {a b k : Nat} (hb : 0 < b) (hk : k + Bt.blen b = Bt.blen a) : Inv a b (k + 1) 0 a := by
  refine ⟨by simp, ?_, 0, by simp⟩
  have h1 := Bt.lt_blen a
  have h2 := (Bt.blen_spec b hb).1
  have h3 : 1 ≤ Bt.blen b := by rw [Bt.blen_pos _ hb]; omega
  obtain ⟨c, hc⟩ : ∃ c, Bt.blen b = c + 1 := ⟨_, (Nat.sub_add_cancel h3).symm⟩
  rw [hc, Nat.add_sub_cancel] at h2
  rw [← hk, hc] at h1
  have : 2 ^ c * 2 ^ (k + 1) ≤ b * 2 ^ (k + 1) := Nat.mul_le_mul_right _ h2
  rw [← Nat.pow_add, show c + (k + 1) = k + (c + 1) by omega] at this
  omega
theorem more {a b i q r : Nat} (h : Inv a b (i + 1) q r) (hle : b * 2 ^ i ≤ r) : Inv a b i (q ||| 2 ^ i) (r - b * 2 ^ i) := by
  obtain ⟨h1, h2, m, h3⟩ := h
  have ho : q ||| 2 ^ i = q + 2 ^ i := by
    rw [h3]
    exact (Nat.two_pow_add_eq_or_of_lt (Nat.pow_lt_pow_right (by omega) (by omega)) m).symm
  refine ⟨?_, ?_, 2 * m + 1, ?_⟩
  · rw [ho, Nat.add_mul, Nat.mul_comm (2 ^ i) b]; omega
  · rw [Nat.pow_succ, ← Nat.mul_assoc] at h2; omega
  · rw [ho, h3, Nat.pow_succ, Nat.mul_add, Nat.mul_one, Nat.mul_assoc]
theorem less {a b i q r : Nat} (h : Inv a b (i + 1) q r) (hlt : r < b * 2 ^ i) : Inv a b i q r := by
  obtain ⟨h1, h2, m, h3⟩ := h
  exact ⟨h1, hlt, 2 * m, by rw [h3, Nat.pow_succ, Nat.mul_assoc]⟩
theorem done {a b q r : Nat} (h : Inv a b 0 q r) : q = a / b ∧ r = a % b := by
  obtain ⟨h1, h2, _⟩ := h
  rw [Nat.pow_zero, Nat.mul_one] at h2
  have hb : 0 < b := by omega
  rw [h1, Nat.mul_comm q b, Nat.mul_add_div hb, Nat.div_eq_of_lt h2, Nat.mul_add_mod, Nat.mod_eq_of_lt h2]
  exact ⟨by omega, rfl⟩
theorem qlt {a b j q r : Nat} (h : Inv a b j q r) (ha : a < 2 ^ 128) (hb : 18446744073709551616 ≤ b) : q < 18446744073709551616 ∧ r < 2 ^ 128 := by
  obtain ⟨h1, h2, _⟩ := h
  have : q * 18446744073709551616 ≤ q * b := Nat.mul_le_mul_left _ hb
  omega
theorem up_fits {a b k i : Nat} (hb : 0 < b) (ha : a < 2 ^ 128) (hk : k + Bt.blen b = Bt.blen a) (hi : i ≤ k) : b * 2 ^ i < 2 ^ 128 := by
  have h1 := Bt.lt_blen b
  have h2 := Bt.blen_le ha
  have h3 : b * 2 ^ i < 2 ^ Bt.blen b * 2 ^ i := Nat.mul_lt_mul_of_pos_right h1 (Nat.two_pow_pos i)
  rw [← Nat.pow_add] at h3
  have h4 : 2 ^ (Bt.blen b + i) ≤ 2 ^ 128 := Nat.pow_le_pow_right (by omega) (by omega)
  omega
theorem blen_mono {a b : Nat} (h : b ≤ a) : Bt.blen b ≤ Bt.blen a := Bt.blen_le (Nat.lt_of_le_of_lt h (Bt.lt_blen a))
theorem k_le {a b k : Nat} (ha : a < 2 ^ 128) (hb : 18446744073709551616 ≤ b) (hk : k + Bt.blen b = Bt.blen a) : k ≤ 63 := by
  have h1 := Bt.blen_le ha
  have h2 := Bt.le_blen (n := b) (k := 64) (by omega)
  omega
end Lg
theorem u64_or_nat (a b : Nat) (ha : a < 18446744073709551616) (hb : b < 18446744073709551616) : bits .or .u64 (a : Int) (b : Int) = ((a ||| b : Nat) : Int) := by
  have hx : a ||| b < 2 ^ 64 := Nat.or_lt_two_pow (by omega) (by omega)
  show IntKind.u64.wrap ((BitVec.ofInt 64 (a : Int) ||| BitVec.ofInt 64 (b : Int)).toNat : Int) = _
  rw [BitVec.toNat_or, ofInt_u64 a (by omega), ofInt_u64 b (by omega), IntKind.wrap_u64]
  omega
def Got (W0 : World) (x : Nat) (s : Value) (wx : World) : Prop := ∃ g, s = .pointer (some ⟨g, 0, none⟩) ∧ Below W0.heap.size W0 wx ∧ Blk wx g 61 #[.int .u64 (hiN x), .int .u64 (loN x)]
theorem got_new {W0 w5 : World} {x : Nat} (h : Below W0.heap.size W0 (w5.alloc (.cells #[.int .u64 (hiN x), .int .u64 (loN x)] 61))) :
    Got W0 x (.pointer (some ⟨w5.heap.size, 0, none⟩)) (w5.alloc (.cells #[.int .u64 (hiN x), .int .u64 (loN x)] 61)) := ⟨_, rfl, h, Blk.new _ _ _⟩
theorem got_set {W0 w5 : World} {x g : Nat} (h : Below W0.heap.size W0 ((w5.setCell ⟨g, 0, none⟩ (.int .u64 (hiN x))).setCell ⟨g, 1, none⟩ (.int .u64 (loN x)))) (hg : ∃ a0 a1, Blk w5 g 61 #[a0, a1]) :
    Got W0 x (.pointer (some ⟨g, 0, none⟩)) ((w5.setCell ⟨g, 0, none⟩ (.int .u64 (hiN x))).setCell ⟨g, 1, none⟩ (.int .u64 (loN x))) := by
  obtain ⟨a0, a1, hg⟩ := hg
  exact ⟨_, rfl, h, (hg.set_ 0 _).set_ 1 _⟩
theorem Below.al' {w W : World} {o : Obj} (h : Below w.heap.size w W) : Below w.heap.size w (W.alloc o) := h.alloc h.size _
theorem Below.thru' {w X W : World} (h : Below w.heap.size w X) (h2 : Below X.heap.size X W) : Below w.heap.size w W := h.trans (h2.mono h.size)
end Go.Proofs.Ytkgekhabafjpiaa
