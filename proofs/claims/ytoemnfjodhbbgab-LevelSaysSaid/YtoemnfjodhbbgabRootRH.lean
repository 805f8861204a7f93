/- The reference's Halvings, walked. -/
import Derived.Test.YtoemnfjodhbbgabRootP
import Derived.Test.YtoemnfjodhbbgabDivB
import Derived.Test.YtoemnfjodhbbgabRa
import Derived.Test.YtoemnfjodhbbgabRp
import Derived.Test.YtoemnfjodhbbgabRd2
import Derived.Test.YtoemnfjodhbbgabRm
namespace Go.Proofs.Ytoemnfjodhbbgab
open Go.RowKit
set_option linter.unusedSimpArgs false
set_option linter.unusedVariables false

theorem cmpN_le0 {a b : Nat} (h : a ≤ b) : cmpN a b ≤ 0 := by unfold cmpN; split <;> rename_i h1 <;> first | decide | (rw [if_neg (by omega)]; decide)
theorem cmpN_pos0 {a b : Nat} (h : b < a) : 0 < cmpN a b := by unfold cmpN; rw [if_neg (by omega), if_pos h]; decide
theorem Reads.thru {w W : World} {n : Nat} {A : Option Addr} {xs : List Value} (h : Reads w w.heap.size 1 A n xs) (hb : Below w.heap.size w W) : Reads W W.heap.size 1 A n xs := (h.below hb (Nat.le_refl _)).more hb.size
theorem bits_lo (x : Nat) (hx : x < 18446744073709551616) (w : World) : Calls Try.prog 19 #[.agg #[.int .u64 0, .int .u64 (x : Int)]] w (NewBits (fun l => l = Bt.bits x) w) := by
  have := bits_any x (by omega) w
  rw [show hiN x = 0 by unfold hiN; omega, show loN x = (x : Int) by unfold loN; omega] at this
  exact this

set_option maxHeartbeats 4000000 in
set_option maxRecDepth 100000 in
theorem rhalv_ok (a b : Nat) (kk : Int) (ha : a < 2 ^ 128) (hb : b < 2 ^ 128) (hk : Rt.IsHalv a b kk) (w : World) :
    Calls Try.prog 24 #[.agg #[.int .u64 (hiN a), .int .u64 (loN a)], .agg #[.int .u64 (hiN b), .int .u64 (loN b)]] w fun e w' => e = .returned (.int .i64 kk) ∧ Below w.heap.size w w' := by
  have HA := Lib.hid ha
  have HK := Lib.hid hk
  have HBA := Lib.hid (fun w => bits_any a ha w)
  have HBB := Lib.hid (fun w => bits_any b hb w)
  have HLA := Lib.hid (show (Bt.bits a).length ≤ 128 by rw [Bt.len_bits]; exact Bt.blen_le ha)
  have HLB := Lib.hid (show (Bt.bits b).length ≤ 128 ∧ (b = 0 → (Bt.bits b).length = 0) ∧ (0 < b → 0 < (Bt.bits b).length) by
    refine ⟨by rw [Bt.len_bits]; exact Bt.blen_le hb, fun h => by rw [h, Bt.len_bits, Bt.blen_zero], fun h => by rw [Bt.len_bits, Bt.blen_pos _ h]; omega⟩)
  have E := Lib.hid (((Env.start w).lay #[.int .u64 (hiN a), .int .u64 (loN a)] 38).lay #[.int .u64 (hiN b), .int .u64 (loN b)] 38)
  simp only [World.size_alloc] at E
  generalize hiN a = ah at *
  generalize loN a = al at *
  generalize hiN b = bh at *
  generalize loN b = bl at *
  clear ha hb hk
  go_enter Try.func24, Try.ntmps24
  go_wp2_with fail
  refine (HBB.out _).mono ?_
  rintro e' w1 ⟨A1, c1, l1, rfl, hl1, ho1, hb1⟩
  have E1 := Lib.hid (E.out.below hb1)
  have R1 := Lib.hid (Reads.of_own ho1)
  have V1 := Lib.hid (show Bt.val l1 = b by rw [hl1, Bt.val_bits])
  rw [← hl1] at HLB
  have HN1 := Lib.hid HLB.out
  clear hl1 ho1 hb1 HLB E
  go_wp2_with fail
  go_loopw [5, 6] (fun kv lv wr => ∃ (j c : Nat) (A : Option Addr) (l : List Bool), kv = .int .i64 ((j : Int) - 1) ∧ lv = .slice A l.length c ∧ Bt.val l = b * 2 ^ j ∧ l.length = l1.length + j ∧ j ≤ 128 ∧ (0 < j → 0 < b ∧ b * 2 ^ (j - 1) ≤ a) ∧ Reads wr wr.heap.size 1 A l.length (l.map Value.bool) ∧
    Env w wr [(w.heap.size + 1, 38, #[.int .u64 bh, .int .u64 bl]), (w.heap.size, 38, #[.int .u64 ah, .int .u64 al])]) (fun kv _ _ => (200 - intOf kv).toNat)
  case atStart => exact ⟨0, c1, A1, l1, rfl, rfl, by rw [V1.out]; simp, by simp, by omega, fun h => by omega, R1.out, E1.out⟩
  case round =>
    obtain ⟨j, c, A, l, rfl, rfl, hv, hl, hj, hle, hr, hE⟩ := hrel
    have F := Lib.hid hE
    have RL := Lib.hid hr
    have HV := Lib.hid hv
    have HLE := Lib.hid hle
    clear hE hr hv hle E1 R1
    have hn1 := HN1.out.1
    by_cases hz : b = 0
    · have h0 := HN1.out.2.1 hz
      have hj0 : j = 0 := by
        rcases Nat.eq_zero_or_pos j with h | h
        · exact h
        · have := (HLE.out h).1; omega
      have HQ := Lib.hid (show kk = -1 by
        rcases HK.out with ⟨h, _⟩ | ⟨n, _, h, _⟩
        · exact h
        · omega)
      have hl0 : l.length = 0 := by omega
      subst hj0
      rw [hl0]
      clear h0 hz hl hl0
      go_wp2
      go_ret
      exact ⟨by rw [HQ.out]; rfl, F.out.bel⟩
    · have hl1 := HN1.out.2.2 (by omega)
      have hpos : 0 < l.length := by omega
      have hlb : l.length ≤ 300 := by omega
      have x0 := F.out.tl.hd.cell 0
      have x1 := F.out.tl.hd.cell 1
      simp at x0 x1
      have HZ := Lib.hid (show 0 < b by omega)
      have HLL := Lib.hid hl
      clear hz hl1 hl
      go_wp2_with fail
      refine (HBA.out _).mono ?_
      rintro e' w2 ⟨A2, c2, l2, rfl, hl2, ho2, hb2⟩
      have F2 := Lib.hid (F.out.below hb2)
      have R2 := Lib.hid (Reads.of_own ho2)
      have RL2 := Lib.hid (RL.out.thru hb2)
      have V2 := Lib.hid (show Bt.val l2 = a by rw [hl2, Bt.val_bits])
      have hn2 : l2.length ≤ 128 := by have := HLA.out; rw [← hl2] at this; exact this
      clear hl2 ho2 hb2 F RL x0 x1
      go_wp2_with fail
      refine (order_is A A2 l l2 c c2 w2.heap.size (b * 2 ^ j) a w2 RL2.out R2.out (by omega) (by omega) HV.out V2.out).mono ?_
      rintro e' w' ⟨rfl, rfl⟩
      by_cases hle : b * 2 ^ j ≤ a
      · have hc := cmpN_le0 hle
        have HL2 := Lib.hid hle
        have hj128 : j < 128 := by
          rcases Nat.lt_or_ge j 128 with h | h
          · exact h
          · have h1 : 2 ^ 128 ≤ 2 ^ j := Nat.pow_le_pow_right (by omega) h
            have h2 : 1 * 2 ^ j ≤ b * 2 ^ j := Nat.mul_le_mul_right _ HZ.out
            have := HA.out
            omega
        generalize cmpN (b * 2 ^ j) a = cc at *
        clear hle
        go_wp2_with fail
        refine (moved_any A l c w2 RL2.out (by omega) 1 (by omega) (by omega)).mono ?_
        rintro e' w3 ⟨A3, c3, l3, rfl, hl3, ho3, hb3⟩
        have F3 := Lib.hid (F2.out.below hb3)
        have HL3 := Lib.hid hl3
        have R3 := Lib.hid (Reads.of_own ho3)
        clear hl3 ho3 hb3 F2
        go_wp2
        go_roundw
        case rel =>
          refine ⟨j + 1, c3, A3, l3, by simp, rfl, ?_, ?_, by omega, fun _ => ⟨HZ.out, HL2.out⟩, R3.out, F3.out⟩
          · rw [HL3.out, val_moved, HV.out, show (2 : Nat) ^ (1 : Int).toNat = 2 from rfl, Nat.pow_succ, Nat.mul_comm 2, Nat.mul_assoc]
          · rw [HL3.out]; simp; have := HLL.out; omega
        case measure => simp [intOf]; omega
      · have hc := cmpN_pos0 (show a < b * 2 ^ j by omega)
        have HQ := Lib.hid (show kk = (j : Int) - 1 by
          rcases Nat.eq_zero_or_pos j with h | h
          · subst h
            rcases HK.out with ⟨h1, _⟩ | ⟨n, _, _, h3, _⟩
            · rw [h1]; rfl
            · have : b * 2 ^ 0 ≤ b * 2 ^ n := Nat.mul_le_mul_left _ (Nat.pow_le_pow_right (by omega) (by omega))
              omega
          · obtain ⟨m, rfl⟩ : ∃ m, j = m + 1 := ⟨j - 1, by omega⟩
            have h1 := (HLE.out h).2
            rw [Nat.add_sub_cancel] at h1
            rcases HK.out with ⟨h2, h3⟩ | ⟨n, rfl, _, h3, h4⟩
            · exfalso
              have : b * 1 ≤ b * 2 ^ m := Nat.mul_le_mul_left _ (Nat.one_le_two_pow)
              have := HZ.out
              omega
            · rcases Nat.lt_trichotomy n m with e | e | e
              · have : b * 2 ^ (n + 1) ≤ b * 2 ^ m := Nat.mul_le_mul_left _ (Nat.pow_le_pow_right (by omega) e)
                omega
              · rw [e]; omega
              · have : b * 2 ^ (m + 1) ≤ b * 2 ^ n := Nat.mul_le_mul_left _ (Nat.pow_le_pow_right (by omega) e)
                omega)
        generalize cmpN (b * 2 ^ j) a = cc at *
        clear hle
        go_wp2
        go_ret
        exact ⟨by rw [HQ.out]; rfl, F2.out.bel⟩
end Go.Proofs.Ytoemnfjodhbbgab
