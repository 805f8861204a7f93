/- prod.Mul, walked; lemmas for prod.Times. -/
import Derived.Test.YthimchhnhhchkaaGreatDoorM04
import Derived.Test.YthimchhnhhchkaaGreatDoorM23
import Derived.Deep.DeepCutAuto
namespace Go.Proofs.YthimchhnhhchkaaGreatDoor
open Go.RowKit
set_option linter.unusedSimpArgs false
set_option linter.unusedVariables false

set_option maxRecDepth 100000 in
theorem mul_w (p q : Int) (x y : Nat) (hp : p = (x : Int)) (hq : q = (y : Int)) (hx : x < 18446744073709551616) (hy : y < 18446744073709551616) (w : World) :
    Calls Tryz.prog 93 #[.int .u64 p, .int .u64 q] w fun e w' => e = .returned (.agg #[.int .u64 (hiN (x * y)), .int .u64 (loN (x * y))]) ∧ Below w.heap.size w w' := by
  subst hp hq
  have h1 : x * y < 2 ^ 128 := by
    have := Nat.mul_le_mul (show x ≤ 18446744073709551615 by omega) (show y ≤ 18446744073709551615 by omega)
    omega
  have HM := Lib.hid (show ∀ w', Calls Tryz.prog 127 #[.int .u64 (x : Int), .int .u64 (y : Int)] w' fun e w'' => e = .returned (.tuple #[.int .u64 (hiN (x * y)), .int .u64 (loN (x * y))]) ∧ w' = w''
    from fun w' => (Tryz.bits_Mul64 x y hx hy w').mono fun e w'' ⟨h1, h2⟩ => ⟨h1, h2.symm⟩)
  generalize x * y = z at *
  obtain ⟨b0, b1⟩ := hiN_bd z h1
  obtain ⟨b2, b3⟩ := loN_bd z
  clear h1
  go_enter Tryz.func93, Tryz.ntmps93
  go_wp2_with fail
  refine (HM.out _).mono ?_
  rintro e w' ⟨rfl, rfl⟩
  go_wp2
  refine bodyPost_ret (v := .agg #[.int .u64 (hiN z), .int .u64 (loN z)]) (by simp [results, Tryz.results93, go_sem]) rfl ⟨rfl, ?_⟩
  exact (Below.refl _ _).alloc (Nat.le_refl _) _

theorem below_realloc {B : Nat} {w X : World} {o o' : Obj} (h : Below B w (X.alloc o)) (hB : B ≤ X.heap.size) : Below B w (X.alloc o') :=
  ⟨h.os, h.tape, h.output, by have := h.size; simp at this ⊢; omega, fun k hk => by
    have := h.block k hk
    rw [heap_alloc_old X o  (by omega)] at this
    rw [heap_alloc_old X o'  (by omega)]
    exact this⟩
theorem below_realloc2 {B : Nat} {w X : World} {o1 o2 o1' o2' : Obj} (h : Below B w ((X.alloc o1).alloc o2)) (hB : B ≤ X.heap.size) : Below B w ((X.alloc o1').alloc o2') :=
  ⟨h.os, h.tape, h.output, by have := h.size; simp at this ⊢; omega, fun k hk => by
    have := h.block k hk
    rw [heap_alloc_old _ o2  (by simp; omega), heap_alloc_old X o1  (by omega)] at this
    rw [heap_alloc_old _ o2'  (by simp; omega), heap_alloc_old X o1'  (by omega)]
    exact this⟩
theorem Blk.new' {w : World} {g : Nat} {t : TypeId} {cs : Array Value} (h : g = w.heap.size) : Blk (w.alloc (.cells cs t)) g t cs := by subst h; exact Blk.new _ _ _
theorem Blk.cell_eq {W : World} {g o : Nat} {t : TypeId} {cs : Array Value} {v : Value} (h : Blk W g t cs) (h2 : cs[o]? = some v) : W.cell? ⟨g, o, none⟩ = some v := (h.cell o).trans h2
theorem below_under {B : Nat} {w X : World} {o o' : Obj} (h : Below B w (X.alloc o)) (hB : B ≤ X.heap.size) {p q : Addr} (hp : B ≤ p.block) (hq : B ≤ q.block) (u v : Value) : Below B w (((X.setCell p u).setCell q v).alloc o') :=
  ⟨h.os, h.tape, h.output, by have := h.size; simp at this ⊢; omega, fun k hk => by
    have := h.block k hk
    rw [heap_alloc_old X o (by omega)] at this
    rw [heap_alloc_old _ o' (by simp; omega), Below.heap_setCell _ q v k (by omega), Below.heap_setCell _ p u k (by omega)]
    exact this⟩
/-- where a product is to be found, by its two halves -/
theorem halves (a b : Nat) : a * b = a / 18446744073709551616 * b * 18446744073709551616 + a % 18446744073709551616 * b := by
  have e := Nat.div_add_mod a 18446744073709551616
  have h : a / 18446744073709551616 * b * 18446744073709551616 + a % 18446744073709551616 * b = (18446744073709551616 * (a / 18446744073709551616) + a % 18446744073709551616) * b := by
    rw [Nat.add_mul, Nat.mul_right_comm, Nat.mul_comm (a / 18446744073709551616) 18446744073709551616]
  rw [h, e]
/-- what the two halves of a product lie in, and nothing older turned -/
def Halves (W0 : World) (x y : Nat) (s6 s7 : Value) (wx : World) : Prop :=
  ∃ g g' : Nat, s6 = .pointer (some ⟨g, 0, none⟩) ∧ s7 = .pointer (some ⟨g', 0, none⟩) ∧ Below W0.heap.size W0 wx ∧ wx.cell? ⟨g, 0, none⟩ = some (.int .u64 (hiN x)) ∧ wx.cell? ⟨g, 1, none⟩ = some (.int .u64 (loN x)) ∧ wx.cell? ⟨g', 0, none⟩ = some (.int .u64 (hiN y)) ∧ wx.cell? ⟨g', 1, none⟩ = some (.int .u64 (loN y))
theorem halves_mk {W0 wx : World} {x y g g' : Nat} (h : Below W0.heap.size W0 wx) (h0 : wx.cell? ⟨g, 0, none⟩ = some (.int .u64 (hiN x))) (h1 : wx.cell? ⟨g, 1, none⟩ = some (.int .u64 (loN x))) (h2 : wx.cell? ⟨g', 0, none⟩ = some (.int .u64 (hiN y))) (h3 : wx.cell? ⟨g', 1, none⟩ = some (.int .u64 (loN y))) :
    Halves W0 x y (.pointer (some ⟨g, 0, none⟩)) (.pointer (some ⟨g', 0, none⟩)) wx := ⟨g, g', rfl, rfl, h, h0, h1, h2, h3⟩
def Has (w : World) (g : Nat) : Prop := ∃ t a0 a1, Blk w g t #[a0, a1]
theorem Blk.new1 (w : World) (o : Obj) (t : TypeId) (cs : Array Value) : Blk ((w.alloc o).alloc (.cells cs t)) (w.heap.size + 1) t cs := Blk.new' (by simp)
section
variable {W0 w5 : World} {x y g g' : Nat} {t t' : TypeId}
theorem halves_A1 (h : Below W0.heap.size W0 ((w5.alloc (.cells #[.int .u64 (hiN x), .int .u64 (loN x)] t)).alloc (.cells #[.int .u64 (hiN y), .int .u64 (loN y)] t'))) :
    Halves W0 x y (.pointer (some ⟨w5.heap.size, 0, none⟩)) (.pointer (some ⟨w5.heap.size + 1, 0, none⟩)) ((w5.alloc (.cells #[.int .u64 (hiN x), .int .u64 (loN x)] t)).alloc (.cells #[.int .u64 (hiN y), .int .u64 (loN y)] t')) :=
  halves_mk h (((Blk.new _ _ _).alloc _).cell_eq rfl) (((Blk.new _ _ _).alloc _).cell_eq rfl) ((Blk.new1 _ _ _ _).cell_eq rfl) ((Blk.new1 _ _ _ _).cell_eq rfl)
theorem halves_A2 (h : Below W0.heap.size W0 ((w5.alloc (.cells #[.int .u64 (hiN y), .int .u64 (loN y)] t)).alloc (.cells #[.int .u64 (hiN x), .int .u64 (loN x)] t'))) :
    Halves W0 x y (.pointer (some ⟨w5.heap.size + 1, 0, none⟩)) (.pointer (some ⟨w5.heap.size, 0, none⟩)) ((w5.alloc (.cells #[.int .u64 (hiN y), .int .u64 (loN y)] t)).alloc (.cells #[.int .u64 (hiN x), .int .u64 (loN x)] t')) :=
  halves_mk h ((Blk.new1 _ _ _ _).cell_eq rfl) ((Blk.new1 _ _ _ _).cell_eq rfl) (((Blk.new _ _ _).alloc _).cell_eq rfl) (((Blk.new _ _ _).alloc _).cell_eq rfl)
theorem halves_B1 (h : Below W0.heap.size W0 (((w5.setCell ⟨g, 0, none⟩ (.int .u64 (hiN x))).setCell ⟨g, 1, none⟩ (.int .u64 (loN x))).alloc (.cells #[.int .u64 (hiN y), .int .u64 (loN y)] t'))) (hg0 : Has w5 g) :
    Halves W0 x y (.pointer (some ⟨g, 0, none⟩)) (.pointer (some ⟨w5.heap.size, 0, none⟩)) (((w5.setCell ⟨g, 0, none⟩ (.int .u64 (hiN x))).setCell ⟨g, 1, none⟩ (.int .u64 (loN x))).alloc (.cells #[.int .u64 (hiN y), .int .u64 (loN y)] t')) := by
  obtain ⟨t, a0, a1, hg⟩ := hg0
  exact halves_mk h ((((hg.set_ 0 _).set_ 1 _).alloc _).cell_eq rfl) ((((hg.set_ 0 _).set_ 1 _).alloc _).cell_eq rfl) ((Blk.new' (by simp)).cell_eq rfl) ((Blk.new' (by simp)).cell_eq rfl)
theorem halves_B2 (h : Below W0.heap.size W0 (((w5.setCell ⟨g, 0, none⟩ (.int .u64 (hiN y))).setCell ⟨g, 1, none⟩ (.int .u64 (loN y))).alloc (.cells #[.int .u64 (hiN x), .int .u64 (loN x)] t'))) (hg0 : Has w5 g) :
    Halves W0 x y (.pointer (some ⟨w5.heap.size, 0, none⟩)) (.pointer (some ⟨g, 0, none⟩)) (((w5.setCell ⟨g, 0, none⟩ (.int .u64 (hiN y))).setCell ⟨g, 1, none⟩ (.int .u64 (loN y))).alloc (.cells #[.int .u64 (hiN x), .int .u64 (loN x)] t')) := by
  obtain ⟨t, a0, a1, hg⟩ := hg0
  exact halves_mk h ((Blk.new' (by simp)).cell_eq rfl) ((Blk.new' (by simp)).cell_eq rfl) ((((hg.set_ 0 _).set_ 1 _).alloc _).cell_eq rfl) ((((hg.set_ 0 _).set_ 1 _).alloc _).cell_eq rfl)
theorem halves_C (h : Below W0.heap.size W0 ((((w5.setCell ⟨g, 0, none⟩ (.int .u64 (hiN x))).setCell ⟨g, 1, none⟩ (.int .u64 (loN x))).setCell ⟨g', 0, none⟩ (.int .u64 (hiN y))).setCell ⟨g', 1, none⟩ (.int .u64 (loN y)))) (hg0 : Has w5 g) (hg0' : Has w5 g') (hne : g ≠ g') :
    Halves W0 x y (.pointer (some ⟨g, 0, none⟩)) (.pointer (some ⟨g', 0, none⟩)) ((((w5.setCell ⟨g, 0, none⟩ (.int .u64 (hiN x))).setCell ⟨g, 1, none⟩ (.int .u64 (loN x))).setCell ⟨g', 0, none⟩ (.int .u64 (hiN y))).setCell ⟨g', 1, none⟩ (.int .u64 (loN y))) := by
  obtain ⟨t, a0, a1, hg⟩ := hg0
  obtain ⟨t', b0, b1, hg'⟩ := hg0'
  exact halves_mk h (((((hg.set_ 0 _).set_ 1 _).far (p := ⟨g', 0, none⟩) hne _).far (p := ⟨g', 1, none⟩) hne _).cell_eq rfl) (((((hg.set_ 0 _).set_ 1 _).far (p := ⟨g', 0, none⟩) hne _).far (p := ⟨g', 1, none⟩) hne _).cell_eq rfl)
    (((((hg'.far (p := ⟨g, 0, none⟩) hne.symm _).far (p := ⟨g, 1, none⟩) hne.symm _).set_ 0 _).set_ 1 _).cell_eq rfl) (((((hg'.far (p := ⟨g, 0, none⟩) hne.symm _).far (p := ⟨g, 1, none⟩) hne.symm _).set_ 0 _).set_ 1 _).cell_eq rfl)
end
end Go.Proofs.YthimchhnhhchkaaGreatDoor
