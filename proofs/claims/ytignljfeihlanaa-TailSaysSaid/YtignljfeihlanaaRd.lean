/- The reference's Order. -/
import Derived.Test.YtignljfeihlanaaRbit
import Derived.Test.YtignljfeihlanaaRcmp
namespace Go.Proofs.Ytignljfeihlanaa
open Go.RowKit
set_option linter.unusedSimpArgs false
set_option linter.unusedVariables false

def OrderRel (la lb : List Bool) (j : Int) : Prop :=
  -1 ≤ j ∧ j < max la.length lb.length ∧ Bt.val (la.drop (j + 1).toNat) = Bt.val (lb.drop (j + 1).toNat)

theorem cmp_of (la lb : List Bool) (k : Nat) (h : Bt.val (la.drop (k + 1)) = Bt.val (lb.drop (k + 1))) (hk : k < max la.length lb.length) :
    ((Bt.bit la k : Int) - (Bt.bit lb k : Int) ≠ 0 → cmpN (Bt.val la) (Bt.val lb) = (Bt.bit la k : Int) - (Bt.bit lb k : Int)) ∧
    ((Bt.bit la k : Int) - (Bt.bit lb k : Int) = 0 → Bt.val (la.drop k) = Bt.val (lb.drop k)) := by
  have hda := Bt.val_drop la k
  have hdb := Bt.val_drop lb k
  have ba := Bt.bit_le la k
  have bb := Bt.bit_le lb k
  refine ⟨fun hne => ?_, fun he => by omega⟩
  have hsa : Bt.val la = Bt.val (la.take k) + 2 ^ k * Bt.val (la.drop k) := by
    rcases Nat.lt_or_ge la.length k with hx | hx
    · rw [List.take_of_length_le (by omega), List.drop_eq_nil_of_le (by omega)]; simp
    · exact Bt.val_take_drop la k hx
  have hsb : Bt.val lb = Bt.val (lb.take k) + 2 ^ k * Bt.val (lb.drop k) := by
    rcases Nat.lt_or_ge lb.length k with hx | hx
    · rw [List.take_of_length_le (by omega), List.drop_eq_nil_of_le (by omega)]; simp
    · exact Bt.val_take_drop lb k hx
  have hta : Bt.val (la.take k) < 2 ^ k := by
    have h1 := Bt.val_lt (la.take k)
    have : 2 ^ (la.take k).length ≤ 2 ^ k := Bt.pow_le_pow (by simp; omega)
    omega
  have htb : Bt.val (lb.take k) < 2 ^ k := by
    have h1 := Bt.val_lt (lb.take k)
    have : 2 ^ (lb.take k).length ≤ 2 ^ k := Bt.pow_le_pow (by simp; omega)
    omega
  generalize Bt.val (la.take k) = ta at *
  generalize Bt.val (lb.take k) = tb at *
  generalize Bt.val (la.drop (k + 1)) = da at *
  rw [← h] at hdb
  generalize 2 ^ k = q at *
  rw [hda] at hsa
  rw [hdb] at hsb
  unfold cmpN
  rcases Nat.lt_or_ge (Bt.bit la k) (Bt.bit lb k) with hx | hx
  · have e1 : Bt.bit la k = 0 := by omega
    have e2 : Bt.bit lb k = 1 := by omega
    rw [e1] at hsa ⊢
    rw [e2] at hsb ⊢
    rw [Nat.mul_add] at hsa hsb
    rw [if_pos (by omega)]; rfl
  · have e1 : Bt.bit la k = 1 := by omega
    have e2 : Bt.bit lb k = 0 := by omega
    rw [e1] at hsa ⊢
    rw [e2] at hsb ⊢
    rw [Nat.mul_add] at hsa hsb
    rw [if_neg (by omega), if_pos (by omega)]; rfl

set_option maxHeartbeats 800000 in
set_option maxRecDepth 100000 in
theorem order_any (A B : Option Addr) (la lb : List Bool) (ca cb D : Nat) (w : World) (ha : Reads w D 1 A la.length (la.map Value.bool)) (hb : Reads w D 1 B lb.length (lb.map Value.bool))
    (la1 : la.length ≤ 1000000) (lb1 : lb.length ≤ 1000000) :
    Calls Try.prog 28 #[.slice A la.length ca, .slice B lb.length cb] w fun e w' => e = .returned (.int .i64 (cmpN (Bt.val la) (Bt.val lb))) ∧ w = w' := by
  have RA := Lib.hid ha
  have RB := Lib.hid hb
  clear ha hb
  rcases Nat.lt_or_ge la.length lb.length with ho | ho
  all_goals
    go_enter Try.func28, Try.ntmps28
    go_wp2
    go_loop [5] (fun iv => ∃ j : Int, iv = .int .i64 j ∧ OrderRel la lb j) (fun iv => (intOf iv + 1).toNat)
    case atStart =>
      refine ⟨_, rfl, by omega, by omega, ?_⟩
      rw [List.drop_eq_nil_of_le (by omega), List.drop_eq_nil_of_le (by omega)]
    case round =>
      obtain ⟨j, rfl, h1, h2, h3⟩ := hrel
      by_cases hj : 0 ≤ j
      · obtain ⟨k, rfl⟩ := Int.eq_ofNat_of_zero_le hj
        have hkm : k < max la.length lb.length := by omega
        have e1 : ((k : Int) + 1).toNat = k + 1 := by omega
        rw [e1] at h3
        obtain ⟨c1, c2⟩ := cmp_of la lb k h3 hkm
        have C1 := Lib.hid c1
        have C2 := Lib.hid c2
        have ba := Bt.bit_le la k
        have bb := Bt.bit_le lb k
        clear c1 c2 h3 e1
        by_cases hz : (Bt.bit la k : Int) - (Bt.bit lb k : Int) = 0
        · have HZ := Lib.hid hz
          have hzb : ((Bt.bit la k : Int) - (Bt.bit lb k : Int) != 0) = false := by simpa using hz
          clear hz
          go_wp2_with fail
          refine (bit_any A la ca _ _ RA.out _ (by omega)).mono ?_
          rintro e w' ⟨rfl, rfl⟩
          go_wp2_with fail
          refine (bit_any B lb cb _ _ RB.out _ (by omega)).mono ?_
          rintro e w' ⟨rfl, rfl⟩
          go_wp2
          go_round
          case rel => exact ⟨_, rfl, by omega, by omega, by rw [show ((k : Int) - 1 + 1).toNat = k by omega]; exact C2.out HZ.out⟩
          case measure => simp [intOf] <;> omega
        · have HZ := Lib.hid hz
          have hzb : ((Bt.bit la k : Int) - (Bt.bit lb k : Int) != 0) = true := by simpa using hz
          clear hz
          go_wp2_with fail
          refine (bit_any A la ca _ _ RA.out _ (by omega)).mono ?_
          rintro e w' ⟨rfl, rfl⟩
          go_wp2_with fail
          refine (bit_any B lb cb _ _ RB.out _ (by omega)).mono ?_
          rintro e w' ⟨rfl, rfl⟩
          go_wp2
          go_ret
          exact ⟨ret_int (C1.out HZ.out).symm, rfl⟩
      · go_wp2
        go_ret
        have e0 : (j + 1).toNat = 0 := by omega
        rw [e0] at h3
        simp at h3
        exact ⟨ret_int (by simp [cmpN, h3]), rfl⟩

end Go.Proofs.Ytignljfeihlanaa
