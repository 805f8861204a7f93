/- The law WideMoves, walked. -/
import Derived.Test.YtljnmginngodkadRa
import Derived.Test.YtljnmginngodkadRm
import Derived.Test.YtljnmginngodkadRsame
import Derived.Test.YtljnmginngodkadWShl
import Derived.Test.YtljnmginngodkadWShr
import Derived.Test.YtljnmginngodkadRc0
namespace Go.Proofs.Ytljnmginngodkad
open Go.RowKit
set_option linter.unusedSimpArgs false
set_option linter.unusedVariables false

theorem WN.three : WN 0 3 3 := ⟨by unfold hiN; omega, by unfold loN; omega, by omega⟩
theorem shl_three (w : World) : Calls Try.prog 4 #[.agg #[.int .u64 0, .int .u64 3], .int .i64 64] w fun e w' => e = .returned (.tuple #[.agg #[.int .u64 3, .int .u64 0], .int .i64 0]) ∧ Below w.heap.size w w' := by
  have h := shl_any 0 3 3 64 WN.three (by omega) (by omega) w
  have e1 : fitN (3 * 2 ^ (64 : Int).toNat) = 55340232221128654848 := by unfold fitN; decide
  have e2 : fitE (3 * 2 ^ (64 : Int).toNat) = 0 := by unfold fitE; decide
  have e3 : hiN 55340232221128654848 = 3 := by unfold hiN; omega
  have e4 : loN 55340232221128654848 = 0 := by unfold loN; omega
  rw [e1, e2, e3, e4] at h
  exact h

theorem val_shr (l : List Bool) (k : Nat) (hk : k ≤ l.length) : Bt.val (l.drop k) = Bt.val l / 2 ^ k := by
  have h1 := Bt.val_take_drop l k hk
  have h2 := take_lt l k hk
  have hp := Nat.two_pow_pos k
  rw [h1, Nat.add_comm, Nat.mul_add_div hp, Nat.div_eq_of_lt h2, Nat.add_zero]

set_option maxHeartbeats 1000000 in
set_option maxRecDepth 100000 in
theorem wideMoves_bad (a : Nat) (n : Int) (ha : a < 2 ^ 128) (h : n < 0 ∨ 127 < n) (w : World) :
    Calls Try.prog 3 #[.agg #[.int .u64 (hiN a), .int .u64 (loN a)], .int .i64 n] w fun e w' => e = .returned (.bool true) ∧ Below w.heap.size w w' := by
  have HA := Lib.hid (WN.mk' a ha)
  have E := Lib.hid ((Env.start w).lay #[.int .u64 (hiN a), .int .u64 (loN a)] 24)
  have H := Lib.hid h
  have hcase : n < 0 ∨ (0 ≤ n ∧ 127 < n) := by omega
  clear ha h
  rcases hcase with h | ⟨h', h⟩
  all_goals
    go_enter Try.func3, Try.ntmps3
    go_wp2_with fail
    refine (shl_bad _ _ _ H.out _).mono ?_
    rintro e w1 ⟨rfl, hb1⟩
    have E1 := Lib.hid (E.out.below hb1)
    clear hb1
    have p0 := E1.out.hd.lt
    have a0 := E1.out.hd.cell 0
    have a1 := E1.out.hd.cell 1
    simp at a0 a1
    go_wp2_with fail
    refine (shr_bad _ _ _ H.out _).mono ?_
    rintro e w2 ⟨rfl, hb2⟩
    have E2 := Lib.hid ((E1.out.lay _ _).below hb2)
    clear hb2 p0 a0 a1 E1
    go_wp2_with fail
    refine (shl_three _).mono ?_
    rintro e w3 ⟨rfl, hb3⟩
    have E3 := Lib.hid ((E2.out.lay _ _).below hb3)
    clear hb3 E2
    have p0 := E3.out.hd.lt
    have p1 := E3.out.tl.hd.lt
    have a0 := E3.out.hd.cell 0
    have a1 := E3.out.hd.cell 1
    have b0 := E3.out.tl.hd.cell 0
    have b1 := E3.out.tl.hd.cell 1
    simp at a0 a1 b0 b1
    go_wp2
    go_ret
    exact ⟨rfl, (E3.out.alloc _).bel⟩

set_option maxHeartbeats 2000000 in
set_option maxRecDepth 100000 in
theorem wideMoves_good (a : Nat) (n : Int) (ha : a < 2 ^ 128) (h0 : 0 ≤ n) (h1 : n ≤ 127) (w : World) :
    Calls Try.prog 3 #[.agg #[.int .u64 (hiN a), .int .u64 (loN a)], .int .i64 n] w fun e w' => e = .returned (.bool true) ∧ Below w.heap.size w w' := by
  obtain ⟨k, rfl⟩ := Int.eq_ofNat_of_zero_le h0
  have HA := Lib.hid (WN.mk' a ha)
  have E := Lib.hid ((Env.start w).lay #[.int .u64 (hiN a), .int .u64 (loN a)] 24)
  clear ha
  go_enter Try.func3, Try.ntmps3
  go_wp2_with fail
  refine (shl_any _ _ a _ HA.out h0 h1 _).mono ?_
  rintro e w1 ⟨rfl, hb1⟩
  rw [Int.toNat_natCast]
  have E1 := Lib.hid (E.out.below hb1)
  clear hb1
  have p0 := E1.out.hd.lt
  have a0 := E1.out.hd.cell 0
  have a1 := E1.out.hd.cell 1
  simp at a0 a1
  go_wp2_with fail
  refine (shr_any _ _ a _ HA.out h0 h1 _).mono ?_
  rintro e w2 ⟨rfl, hb2⟩
  rw [Int.toNat_natCast]
  have E2 := Lib.hid ((E1.out.lay _ _).below hb2)
  clear hb2 p0 a0 a1 E1
  generalize hfn : fitN (a * 2 ^ k) = fn at *
  generalize hfe : fitE (a * 2 ^ k) = fe at *
  generalize hsh : a / 2 ^ k = sh at *
  have HFN := Lib.hid hfn
  have HFE := Lib.hid hfe
  have HSH := Lib.hid hsh
  clear hfn hfe hsh
  go_wp2_with fail
  refine (shl_three _).mono ?_
  rintro e w3 ⟨rfl, hb3⟩
  have E3 := Lib.hid ((E2.out.lay _ _).below hb3)
  clear hb3 E2
  have p0 := E3.out.tl.tl.hd.lt
  have a0 := E3.out.tl.tl.hd.cell 0
  have a1 := E3.out.tl.tl.hd.cell 1
  simp at a0 a1
  go_wp2_with fail
  refine (bits_any a HA.out.2.2 _).mono ?_
  rintro e w4 ⟨A4, c4, l4, rfl, hl4, ho4, hb4⟩
  have E4 := Lib.hid ((E3.out.lay _ _).below hb4)
  have V4 := Lib.hid (show Bt.val l4 = a by rw [hl4, Bt.val_bits])
  have n4 : l4.length ≤ 128 := by rw [hl4, Bt.len_bits]; exact Bt.blen_le HA.out.2.2
  have R4 := Lib.hid (Reads.of_own ho4)
  have hcap := (ownsRow_cap ho4).1
  clear hl4 ho4 hb4 p0 a0 a1 E3
  have hmin : k ≤ l4.length ∨ l4.length < k := by omega
  obtain ⟨m, hm⟩ : ∃ m, m = min k l4.length := ⟨_, rfl⟩
  obtain ⟨A5, hA5⟩ : ∃ A5, A5 = (if c4 = m then A4 else A4.map fun x => x.add m) := ⟨_, rfl⟩
  have hr5 : Reads w4 w4.heap.size 1 A5 (l4.length - m) ((l4.map Value.bool).drop m) := by
    have := R4.out.cut (k := m) (cap := c4) (by omega) hcap
    simp only [Nat.mul_one] at this
    rw [hA5]; exact this
  have HR5 : Hid (Reads w4 w4.heap.size 1 A5 (l4.drop m).length ((l4.drop m).map Value.bool)) := by
    rw [List.map_drop, List.length_drop]; exact Lib.hid hr5
  have V5 : Hid (Bt.val (l4.drop m) = sh) := by
    rw [val_shr l4 m (by omega), V4.out, ← HSH.out]
    rcases hmin with h | h
    · rw [show m = k by omega]; exact Lib.hid rfl
    · have e1 : m = l4.length := by omega
      have e2 := Bt.val_lt l4
      rw [V4.out] at e2
      have e3 : 2 ^ l4.length ≤ 2 ^ k := Bt.pow_le_pow (by omega)
      rw [e1, Nat.div_eq_of_lt e2, Nat.div_eq_of_lt (by omega)]
      exact Lib.hid rfl
  generalize hl5 : l4.drop m = l5 at *
  have hn5 : l4.length - m = l5.length := by rw [← hl5, List.length_drop]
  have n5 : l5.length ≤ 128 := by omega
  have HN5 := Lib.hid hn5
  clear hl5 hr5 hn5
  have HS := Lib.hid (show ∀ w', Below w4.heap.size w4 w' → (Below w4.heap.size w4 w' ∧ w'.cell? ⟨w1.heap.size, 0, none⟩ = some (.int .u64 (hiN fn)) ∧ w'.cell? ⟨w1.heap.size, 1, none⟩ = some (.int .u64 (loN fn)) ∧ w'.cell? ⟨w2.heap.size, 0, none⟩ = some (.int .u64 (hiN sh)) ∧ w'.cell? ⟨w2.heap.size, 1, none⟩ = some (.int .u64 (loN sh)))
    from fun w' e8 => ⟨e8, (E4.out.below e8).tl.tl.hd.cell 0, (E4.out.below e8).tl.tl.hd.cell 1, (E4.out.below e8).tl.hd.cell 0, (E4.out.below e8).tl.hd.cell 1⟩)
  have hsh : sh < 2 ^ 128 := by rw [← HSH.out]; exact Nat.lt_of_le_of_lt (Nat.div_le_self _ _) HA.out.2.2
  have HSL := Lib.hid hsh
  clear hsh
  have tok1 : True := trivial
  have hmn : min (k : Int) (l4.length : Int) = (m : Int) := by omega
  have hm0 : (0 : Int) ≤ (m : Int) := by omega
  have hm1 : (m : Int) ≤ (l4.length : Int) := by omega
  have hmk : m ≤ l4.length := by omega
  clear hm hmin
  by_cases hcm : c4 = m
  · rw [if_pos hcm] at hA5
    subst hA5 hcm
    obtain rfl : l5 = [] := List.eq_nil_of_length_eq_zero (by have := HN5.out; omega)
    go_wp2_with fail
    go_region_held3 (fun w' => Below w4.heap.size w4 w' ∧ w'.cell? ⟨w1.heap.size, 0, none⟩ = some (.int .u64 (hiN fn)) ∧ w'.cell? ⟨w1.heap.size, 1, none⟩ = some (.int .u64 (loN fn)) ∧ w'.cell? ⟨w2.heap.size, 0, none⟩ = some (.int .u64 (hiN sh)) ∧ w'.cell? ⟨w2.heap.size, 1, none⟩ = some (.int .u64 (loN sh)))
      ((refine HS.out _ ?_; first | exact (Below.refl _ _).drew | exact And.left (by assumption) | exact Below.trans (And.left (by assumption)) (Below.mono hb7 (Below.size (And.left (by assumption)))) | exact Below.trans (And.left (by assumption)) (Below.mono hb6 (Below.size (And.left (by assumption)))) | exact Below.trans (And.left (by assumption)) (Below.mono hb5 (Below.size (And.left (by assumption))))))
      (first
        | (go_at_call 8; refine (moved_any _ l4 _ _ ((R4.out.below (And.left (by assumption)) (Nat.le_refl _)).more (Below.size (And.left (by assumption)))) (by omega) _ h0 (by omega)).mono ?_; rintro e w5 ⟨A6, c6, l6, rfl, hl6, ho6, hb5⟩; have hq6 : l6.length ≤ 1000 := (by rw [hl6]; simp; omega); have HL6 := Lib.hid hl6; clear hl6)
        | (go_at_call 7; have _t := tok1; refine (same_told A6 l6 c6 _ fn fe (by rw [HL6.out, Int.toNat_natCast, val_moved, V4.out, Nat.mul_comm]) HFN.out HFE.out _ (Reads.of_own ho6) (by omega)).mono ?_; rintro e w6 ⟨rfl, hb6⟩; clear tok1 _t)
        | (go_at_call 7; refine (same_is _ [] _ sh V5.out HSL.out _ ((HR5.out.below (And.left (by assumption)) (Nat.le_refl _)).more (Below.size (And.left (by assumption)))) (by decide)).mono ?_; rintro e w7 ⟨rfl, hb7⟩))
    rename_i hheld
    go_wp2
    go_ret
    exact ⟨rfl, E4.out.bel.trans (Below.mono hheld.1 E4.out.bel.size)⟩
  · rw [if_neg hcm] at hA5
    subst hA5
    go_wp2_with fail
    go_region_held3 (fun w' => Below w4.heap.size w4 w' ∧ w'.cell? ⟨w1.heap.size, 0, none⟩ = some (.int .u64 (hiN fn)) ∧ w'.cell? ⟨w1.heap.size, 1, none⟩ = some (.int .u64 (loN fn)) ∧ w'.cell? ⟨w2.heap.size, 0, none⟩ = some (.int .u64 (hiN sh)) ∧ w'.cell? ⟨w2.heap.size, 1, none⟩ = some (.int .u64 (loN sh)))
      ((refine HS.out _ ?_; first | exact (Below.refl _ _).drew | exact And.left (by assumption) | exact Below.trans (And.left (by assumption)) (Below.mono hb7 (Below.size (And.left (by assumption)))) | exact Below.trans (And.left (by assumption)) (Below.mono hb6 (Below.size (And.left (by assumption)))) | exact Below.trans (And.left (by assumption)) (Below.mono hb5 (Below.size (And.left (by assumption))))))
      (first
        | (go_at_call 8; refine (moved_any _ l4 _ _ ((R4.out.below (And.left (by assumption)) (Nat.le_refl _)).more (Below.size (And.left (by assumption)))) (by omega) _ h0 (by omega)).mono ?_; rintro e w5 ⟨A6, c6, l6, rfl, hl6, ho6, hb5⟩; have hq6 : l6.length ≤ 1000 := (by rw [hl6]; simp; omega); have HL6 := Lib.hid hl6; clear hl6)
        | (go_at_call 7; have _t := tok1; refine (same_told A6 l6 c6 _ fn fe (by rw [HL6.out, Int.toNat_natCast, val_moved, V4.out, Nat.mul_comm]) HFN.out HFE.out _ (Reads.of_own ho6) (by omega)).mono ?_; rintro e w6 ⟨rfl, hb6⟩; clear tok1 _t)
        | (go_at_call 7; rw [HN5.out]; refine (same_is _ l5 _ sh V5.out HSL.out _ ((HR5.out.below (And.left (by assumption)) (Nat.le_refl _)).more (Below.size (And.left (by assumption)))) (by omega)).mono ?_; rintro e w7 ⟨rfl, hb7⟩))
    rename_i hheld
    go_wp2
    go_ret
    exact ⟨rfl, E4.out.bel.trans (Below.mono hheld.1 E4.out.bel.size)⟩

theorem wideMoves_walk (a : Nat) (n : Int) (ha : a < 2 ^ 128) (_lo : -9223372036854775808 ≤ n) (_hi : n ≤ 9223372036854775807) (w : World) :
    Calls Try.prog 3 #[.agg #[.int .u64 (hiN a), .int .u64 (loN a)], .int .i64 n] w fun e w' => e = .returned (.bool true) ∧ Below w.heap.size w w' := by
  by_cases h : n < 0 ∨ 127 < n
  · exact wideMoves_bad a n ha h w
  · exact wideMoves_good a n ha (by omega) (by omega) w

end Go.Proofs.Ytljnmginngodkad
