/- The reference's Root and Halvings, walked. -/
import Derived.Test.YtoemnfjodhbbgadRootP
import Derived.Test.YtoemnfjodhbbgadDivB
import Derived.Test.YtoemnfjodhbbgadRa
import Derived.Test.YtoemnfjodhbbgadRp
import Derived.Test.YtoemnfjodhbbgadRd2
import Derived.Test.YtoemnfjodhbbgadRm
namespace Go.Proofs.Ytoemnfjodhbbgad
open Go.RowKit
set_option linter.unusedSimpArgs false
set_option linter.unusedVariables false

theorem cmpN_le0 {a b : Nat} (h : a ≤ b) : cmpN a b ≤ 0 := by unfold cmpN; split <;> rename_i h1 <;> first | decide | (rw [if_neg (by omega)]; decide)
theorem cmpN_pos0 {a b : Nat} (h : b < a) : 0 < cmpN a b := by unfold cmpN; rw [if_neg (by omega), if_pos h]; decide
theorem Reads.thru {w W : World} {n : Nat} {A : Option Addr} {xs : List Value} (h : Reads w w.heap.size 1 A n xs) (hb : Below w.heap.size w W) : Reads W W.heap.size 1 A n xs := (h.below hb (Nat.le_refl _)).more hb.size
theorem bits_lo (x : Nat) (hx : x < 18446744073709551616) (w : World) : Calls Try.prog 10 #[.agg #[.int .u64 0, .int .u64 (x : Int)]] w (NewBits (fun l => l = Bt.bits x) w) := by
  have := bits_any x (by omega) w
  rw [show hiN x = 0 by unfold hiN; omega, show loN x = (x : Int) by unfold loN; omega] at this
  exact this

set_option maxHeartbeats 4000000 in
set_option maxRecDepth 100000 in
theorem rroot_ok (a r : Nat) (ha : a < 2 ^ 128) (hr : Rt.IsRoot a r) (w : World) :
    Calls Try.prog 7 #[.agg #[.int .u64 (hiN a), .int .u64 (loN a)]] w fun e w' => e = .returned (.int .u64 (r : Int)) ∧ Below w.heap.size w w' := by
  have HR := Lib.hid hr
  have HA := Lib.hid ha
  have HBA := Lib.hid (fun w => bits_any a ha w)
  have HLA := Lib.hid (show (Bt.bits a).length ≤ 128 by rw [Bt.len_bits]; exact Bt.blen_le ha)
  have h264 : (0 + 2 ^ 64) * (0 + 2 ^ 64) = 2 ^ 128 := by decide
  have HST := Lib.hid (show Rt.BitInv a 0 64 from ⟨by omega, by omega, 0, by simp⟩)
  clear h264
  have E := Lib.hid ((Env.start w).lay #[.int .u64 (hiN a), .int .u64 (loN a)] 24)
  generalize hiN a = ah at *
  generalize loN a = al at *
  clear hr ha
  go_enter Try.func7, Try.ntmps7
  go_wp2
  go_loopw [3, 4] (fun xv iv wr => ∃ j x : Nat, j ≤ 64 ∧ iv = .int .i64 ((j : Int) - 1) ∧ xv = .int .u64 (x : Int) ∧ x < 18446744073709551616 ∧ Rt.BitInv a x j ∧ Env w wr [(w.heap.size, 24, #[.int .u64 ah, .int .u64 al])]) (fun _ iv _ => (intOf iv + 1).toNat)
  case atStart => exact ⟨64, 0, by omega, rfl, rfl, by omega, HST.out, E.out⟩
  case round =>
    obtain ⟨j, x, hj, rfl, rfl, hx, hinv, hE⟩ := hrel
    have F := Lib.hid hE
    have HI := Lib.hid hinv
    clear hE hinv E HST
    rcases Nat.eq_zero_or_pos j with hj0 | hj0
    · subst hj0
      have HQ := Lib.hid (show x = r from Rt.root_eq HR.out HI.out.1 (by have := HI.out.2.1; rw [Nat.pow_zero] at this; exact this))
      go_wp2
      go_ret
      exact ⟨by rw [← HQ.out]; rfl, F.out.bel⟩
    · obtain ⟨i, rfl⟩ : ∃ i, j = i + 1 := ⟨j - 1, by omega⟩
      have e0 : ((i + 1 : Nat) : Int) - 1 = (i : Int) := by omega
      rw [e0]
      clear e0
      have hp64 : 2 ^ i < 18446744073709551616 := Nat.lt_of_le_of_lt (Nat.pow_le_pow_right (by omega) (show i ≤ 63 by omega)) (by decide)
      have hpi : (2 : Int) ^ i = ((2 ^ i : Nat) : Int) := (Int.natCast_pow 2 i).symm
      have hsum : x + 2 ^ i < 18446744073709551616 := by
        rw [← Rt.bit_or HI.out.2.2]
        exact Nat.or_lt_two_pow (n := 64) (by omega) (by omega)
      have hor : bits .or .u64 (x : Int) ((2 ^ i : Nat) : Int) = ((x + 2 ^ i : Nat) : Int) := by rw [u64_or_nat x (2 ^ i) hx hp64, Rt.bit_or HI.out.2.2]
      have HY := Lib.hid (show (x + 2 ^ i) * (x + 2 ^ i) ≤ a → Rt.BitInv a (x + 2 ^ i) i from Rt.bit_yes HI.out)
      have HN := Lib.hid (show a < (x + 2 ^ i) * (x + 2 ^ i) → Rt.BitInv a x i from Rt.bit_no HI.out)
      have HBY := Lib.hid (fun w => bits_lo (x + 2 ^ i) hsum w)
      generalize x + 2 ^ i = y at *
      generalize 2 ^ i = pp at *
      have hi63 : i ≤ 63 := by omega
      go_wp2_with fail
      refine (HBY.out _).mono ?_
      rintro e' w1 ⟨A1, c1, l1, rfl, hl1, ho1, hb1⟩
      have F1 := Lib.hid (F.out.below hb1)
      have R1 := Lib.hid (Reads.of_own ho1)
      have V1 := Lib.hid (show Bt.val l1 = y by rw [hl1, Bt.val_bits])
      have hn1 : l1.length ≤ 64 := by rw [hl1, Bt.len_bits]; exact Bt.blen_le (by omega)
      clear hl1 ho1 hb1 hor hpi F HBY
      go_upto_region 7 with fail
      have HS := Lib.hid (show ∀ w', Below w1.heap.size w1 w' → (Below w1.heap.size w1 w' ∧ w'.cell? ⟨w.heap.size, 0, none⟩ = some (.int .u64 ah) ∧ w'.cell? ⟨w.heap.size, 1, none⟩ = some (.int .u64 al))
        from fun w' h => ⟨h, (F1.out.below h).hd.cell 0, (F1.out.below h).hd.cell 1⟩)
      go_cut [24] (fun s24 wx => s24 = .bool (decide (cmpN (y * y) a ≤ 0)) ∧ Below w1.heap.size w1 wx)
      case first =>
        go_region_held3 (fun w' => Below w1.heap.size w1 w' ∧ w'.cell? ⟨w.heap.size, 0, none⟩ = some (.int .u64 ah) ∧ w'.cell? ⟨w.heap.size, 1, none⟩ = some (.int .u64 al))
          ((refine HS.out _ ?_; repeat (first | (with_reducible exact hL4) | (with_reducible exact hL3) | (with_reducible exact hL2) | (with_reducible exact Below.refl _ _) | (with_reducible refine Below.drew ?_))))
          (first
            | (go_at_call 9; (with_reducible refine (prod_any A1 A1 l1 l1 c1 c1 _ (R1.out.thru (by repeat (first | (with_reducible exact hL3) | (with_reducible exact Below.refl _ _) | (with_reducible refine Below.drew ?_)))) (R1.out.thru (by repeat (first | (with_reducible exact hL3) | (with_reducible exact Below.refl _ _) | (with_reducible refine Below.drew ?_)))) (by omega) (by omega)).mono ?_); rintro e' w2 ⟨A2, c2, l2, rfl, hl2, ho2, hb2⟩; have HL2 := Lib.hid hl2; have hL2 : Below w1.heap.size w1 w2 := Below.thru' (by repeat (first | (with_reducible exact hL3) | (with_reducible exact Below.refl _ _) | (with_reducible refine Below.drew ?_))) hb2; clear hl2)
            | (go_at_call 10; (with_reducible refine (HBA.out _).mono ?_); rintro e' w3 ⟨A3, c3, l3, rfl, hl3, ho3, hb3⟩; have HL3 := Lib.hid hl3; have hL3 : Below w1.heap.size w1 w3 := Below.thru' (by repeat (first | (with_reducible exact hL2) | (with_reducible exact Below.refl _ _) | (with_reducible refine Below.drew ?_))) hb3; clear hl3)
            | (go_at_call 19; have hv2 : Bt.val l2 = y * y := (by rw [HL2.out.1, List.take_length, V1.out]); have hv3 : Bt.val l3 = a := (by rw [HL3.out, Bt.val_bits]); have hn2 : l2.length ≤ 1000000 := (by have := HL2.out.2.1; omega); have hn3 : l3.length ≤ 1000000 := (by have := HLA.out; rw [← HL3.out] at this; omega); (with_reducible refine (order_is A2 A3 l2 l3 c2 c3 w3.heap.size (y * y) a w3 ((Reads.of_own ho2).thru (by first | exact hb3 | exact Below.thru' (by repeat (first | (with_reducible exact Below.refl _ _) | (with_reducible refine Below.drew ?_))) hb3)) (Reads.of_own ho3) hn2 hn3 hv2 hv3).mono ?_); rintro e' wo ⟨rfl, rfl⟩))
        all_goals
          rename_i hheld
          have hbel := hheld.1
          clear hheld HS
          go_wp2_with fail
          go_meet
          exact ⟨rfl, hbel⟩
      case rest =>
        obtain ⟨rfl, hbel⟩ := hcut
        have F2 := Lib.hid (F1.out.below hbel)
        clear hbel F1 HS R1
        by_cases hle : y * y ≤ a
        · have hc := cmpN_le0 hle
          have HI2 := Lib.hid (HY.out hle)
          generalize cmpN (y * y) a = cc at *
          clear hle HY HN
          go_wp2
          go_roundw
          case rel => exact ⟨i, y, by omega, by simp, rfl, hsum, HI2.out, F2.out⟩
          case measure => simp [intOf]
        · have hc := cmpN_pos0 (show a < y * y by omega)
          have HI2 := Lib.hid (HN.out (by omega))
          generalize cmpN (y * y) a = cc at *
          clear hle HY HN
          go_wp2
          go_roundw
          case rel => exact ⟨i, x, by omega, by simp, rfl, hx, HI2.out, F2.out⟩
          case measure => simp [intOf]

set_option maxHeartbeats 4000000 in
set_option maxRecDepth 100000 in
theorem rhalv_ok (a b : Nat) (kk : Int) (ha : a < 2 ^ 128) (hb : b < 2 ^ 128) (hk : Rt.IsHalv a b kk) (w : World) :
    Calls Try.prog 8 #[.agg #[.int .u64 (hiN a), .int .u64 (loN a)], .agg #[.int .u64 (hiN b), .int .u64 (loN b)]] w fun e w' => e = .returned (.int .i64 kk) ∧ Below w.heap.size w w' := by
  have HA := Lib.hid ha
  have HK := Lib.hid hk
  have HBA := Lib.hid (fun w => bits_any a ha w)
  have HBB := Lib.hid (fun w => bits_any b hb w)
  have HLA := Lib.hid (show (Bt.bits a).length ≤ 128 by rw [Bt.len_bits]; exact Bt.blen_le ha)
  have HLB := Lib.hid (show (Bt.bits b).length ≤ 128 ∧ (b = 0 → (Bt.bits b).length = 0) ∧ (0 < b → 0 < (Bt.bits b).length) by
    refine ⟨by rw [Bt.len_bits]; exact Bt.blen_le hb, fun h => by rw [h, Bt.len_bits, Bt.blen_zero], fun h => by rw [Bt.len_bits, Bt.blen_pos _ h]; omega⟩)
  have E := Lib.hid (((Env.start w).lay #[.int .u64 (hiN a), .int .u64 (loN a)] 24).lay #[.int .u64 (hiN b), .int .u64 (loN b)] 24)
  simp only [World.size_alloc] at E
  generalize hiN a = ah at *
  generalize loN a = al at *
  generalize hiN b = bh at *
  generalize loN b = bl at *
  clear ha hb hk
  go_enter Try.func8, Try.ntmps8
  go_wp2_with fail
  refine (HBB.out _).mono ?_
  rintro e' w1 ⟨A1, c1, l1, rfl, hl1, ho1, hb1⟩
  have E1 := Lib.hid (E.out.below hb1)
  have R1 := Lib.hid (Reads.of_own ho1)
  have V1 := Lib.hid (show Bt.val l1 = b by rw [hl1, Bt.val_bits])
  rw [← hl1] at HLB
  have HN1 := Lib.hid HLB.out
  clear hl1 ho1 hb1 HLB E
  go_wp2_with fail
  go_loopw [5, 6] (fun kv lv wr => ∃ (j c : Nat) (A : Option Addr) (l : List Bool), kv = .int .i64 ((j : Int) - 1) ∧ lv = .slice A l.length c ∧ Bt.val l = b * 2 ^ j ∧ l.length = l1.length + j ∧ j ≤ 128 ∧ (0 < j → 0 < b ∧ b * 2 ^ (j - 1) ≤ a) ∧ Reads wr wr.heap.size 1 A l.length (l.map Value.bool) ∧
    Env w wr [(w.heap.size + 1, 24, #[.int .u64 bh, .int .u64 bl]), (w.heap.size, 24, #[.int .u64 ah, .int .u64 al])]) (fun kv _ _ => (200 - intOf kv).toNat)
  case atStart => exact ⟨0, c1, A1, l1, rfl, rfl, by rw [V1.out]; simp, by simp, by omega, fun h => by omega, R1.out, E1.out⟩
  case round =>
    obtain ⟨j, c, A, l, rfl, rfl, hv, hl, hj, hle, hr, hE⟩ := hrel
    have F := Lib.hid hE
    have RL := Lib.hid hr
    have HV := Lib.hid hv
    have HLE := Lib.hid hle
    clear hE hr hv hle E1 R1
    have hn1 := HN1.out.1
    by_cases hz : b = 0
    · have h0 := HN1.out.2.1 hz
      have hj0 : j = 0 := by
        rcases Nat.eq_zero_or_pos j with h | h
        · exact h
        · have := (HLE.out h).1; omega
      have HQ := Lib.hid (show kk = -1 by
        rcases HK.out with ⟨h, _⟩ | ⟨n, _, h, _⟩
        · exact h
        · omega)
      have hl0 : l.length = 0 := by omega
      subst hj0
      rw [hl0]
      clear h0 hz hl hl0
      go_wp2
      go_ret
      exact ⟨by rw [HQ.out]; rfl, F.out.bel⟩
    · have hl1 := HN1.out.2.2 (by omega)
      have hpos : 0 < l.length := by omega
      have hlb : l.length ≤ 300 := by omega
      have x0 := F.out.tl.hd.cell 0
      have x1 := F.out.tl.hd.cell 1
      simp at x0 x1
      have HZ := Lib.hid (show 0 < b by omega)
      have HLL := Lib.hid hl
      clear hz hl1 hl
      go_wp2_with fail
      refine (HBA.out _).mono ?_
      rintro e' w2 ⟨A2, c2, l2, rfl, hl2, ho2, hb2⟩
      have F2 := Lib.hid (F.out.below hb2)
      have R2 := Lib.hid (Reads.of_own ho2)
      have RL2 := Lib.hid (RL.out.thru hb2)
      have V2 := Lib.hid (show Bt.val l2 = a by rw [hl2, Bt.val_bits])
      have hn2 : l2.length ≤ 128 := by have := HLA.out; rw [← hl2] at this; exact this
      clear hl2 ho2 hb2 F RL x0 x1
      go_wp2_with fail
      refine (order_is A A2 l l2 c c2 w2.heap.size (b * 2 ^ j) a w2 RL2.out R2.out (by omega) (by omega) HV.out V2.out).mono ?_
      rintro e' w' ⟨rfl, rfl⟩
      by_cases hle : b * 2 ^ j ≤ a
      · have hc := cmpN_le0 hle
        have HL2 := Lib.hid hle
        have hj128 : j < 128 := by
          rcases Nat.lt_or_ge j 128 with h | h
          · exact h
          · have h1 : 2 ^ 128 ≤ 2 ^ j := Nat.pow_le_pow_right (by omega) h
            have h2 : 1 * 2 ^ j ≤ b * 2 ^ j := Nat.mul_le_mul_right _ HZ.out
            have := HA.out
            omega
        generalize cmpN (b * 2 ^ j) a = cc at *
        clear hle
        go_wp2_with fail
        refine (moved_any A l c w2 RL2.out (by omega) 1 (by omega) (by omega)).mono ?_
        rintro e' w3 ⟨A3, c3, l3, rfl, hl3, ho3, hb3⟩
        have F3 := Lib.hid (F2.out.below hb3)
        have HL3 := Lib.hid hl3
        have R3 := Lib.hid (Reads.of_own ho3)
        clear hl3 ho3 hb3 F2
        go_wp2
        go_roundw
        case rel =>
          refine ⟨j + 1, c3, A3, l3, by simp, rfl, ?_, ?_, by omega, fun _ => ⟨HZ.out, HL2.out⟩, R3.out, F3.out⟩
          · rw [HL3.out, val_moved, HV.out, show (2 : Nat) ^ (1 : Int).toNat = 2 from rfl, Nat.pow_succ, Nat.mul_comm 2, Nat.mul_assoc]
          · rw [HL3.out]; simp; have := HLL.out; omega
        case measure => simp [intOf]; omega
      · have hc := cmpN_pos0 (show a < b * 2 ^ j by omega)
        have HQ := Lib.hid (show kk = (j : Int) - 1 by
          rcases Nat.eq_zero_or_pos j with h | h
          · subst h
            rcases HK.out with ⟨h1, _⟩ | ⟨n, _, _, h3, _⟩
            · rw [h1]; rfl
            · have : b * 2 ^ 0 ≤ b * 2 ^ n := Nat.mul_le_mul_left _ (Nat.pow_le_pow_right (by omega) (by omega))
              omega
          · obtain ⟨m, rfl⟩ : ∃ m, j = m + 1 := ⟨j - 1, by omega⟩
            have h1 := (HLE.out h).2
            rw [Nat.add_sub_cancel] at h1
            rcases HK.out with ⟨h2, h3⟩ | ⟨n, rfl, _, h3, h4⟩
            · exfalso
              have : b * 1 ≤ b * 2 ^ m := Nat.mul_le_mul_left _ (Nat.one_le_two_pow)
              have := HZ.out
              omega
            · rcases Nat.lt_trichotomy n m with e | e | e
              · have : b * 2 ^ (n + 1) ≤ b * 2 ^ m := Nat.mul_le_mul_left _ (Nat.pow_le_pow_right (by omega) e)
                omega
              · rw [e]; omega
              · have : b * 2 ^ (m + 1) ≤ b * 2 ^ n := Nat.mul_le_mul_left _ (Nat.pow_le_pow_right (by omega) e)
                omega)
        generalize cmpN (b * 2 ^ j) a = cc at *
        clear hle
        go_wp2
        go_ret
        exact ⟨by rw [HQ.out]; rfl, F2.out.bel⟩
end Go.Proofs.Ytoemnfjodhbbgad
