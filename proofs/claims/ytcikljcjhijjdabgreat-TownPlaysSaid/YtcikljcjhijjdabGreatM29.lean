/- level.Of. (with what it needs) -/
import Derived.Test.YtcikljcjhijjdabGreatM11
import Derived.Test.YtcikljcjhijjdabGreatM26
import Derived.Test.YtcikljcjhijjdabGreatM28
import Derived.Deep.DeepCutAuto
import Derived.Test.YtcikljcjhijjdabGreatM07
import Derived.Test.YtcikljcjhijjdabGreatM06
import Derived.Test.YtcikljcjhijjdabGreatM05
namespace Go.Proofs.YtcikljcjhijjdabGreat
open Go.RowKit
set_option linter.unusedSimpArgs false
set_option linter.unusedVariables false

set_option maxRecDepth 100000 in
set_option maxHeartbeats 1000000 in
theorem lof_err (cap least since : Int) (A : Option Addr) (c B n : Nat) (l : List Int) (hn : l.length = n) (e : Int) (he : lookE cap least l = e) (hz : e ≠ 0) (hm : n ≤ maxLen) (w : World) (hr : Reads w B 1 A n (cellsI l)) (hB : B ≤ w.heap.size) :
    Calls Tryz.prog 60 #[.agg #[.int .i64 cap, .slice A n c], .int .i64 least, .int .i64 since] w fun e' w' => e' = .returned (.tuple #[.int .i64 0, .int .i64 e]) ∧ Below w.heap.size w w' := by
  have HN := Lib.hid hn
  have HE := Lib.hid he
  have HC := Lib.hid (hr.alloc hB (.cells #[.int .i64 cap, .slice A n c] 85))
  have E := Lib.hid ((Env.start w).lay #[.int .i64 cap, .slice A n c] 85)
  have hB2 : B ≤ (w.alloc (.cells #[.int .i64 cap, .slice A n c] 85)).heap.size := by simp; omega
  clear hr hB he hn
  go_enter Tryz.func60, Tryz.ntmps60
  go_wp2_with fail
  refine (look_is _ _ _ _ _ n l HN.out _ HE.out hm _ HC.out hB2).mono ?_
  rintro e' w1 ⟨rfl, hb1⟩
  have E1 := Lib.hid (E.out.below hb1)
  clear hb1
  go_wp2
  refine bodyPost_ret (v := .tuple #[.int .i64 0, .int .i64 e]) (by simp [results, Tryz.results60, go_sem]) rfl ⟨rfl, E1.out.bel⟩

set_option maxRecDepth 100000 in
set_option maxHeartbeats 1000000 in
theorem lof_time (cap least since : Int) (A : Option Addr) (c B n : Nat) (l : List Int) (hn : l.length = n) (he : lookE cap least l = 0) (ht : since < 0 ∨ 1073741824 < since) (hm : n ≤ maxLen) (w : World) (hr : Reads w B 1 A n (cellsI l)) (hB : B ≤ w.heap.size) :
    Calls Tryz.prog 60 #[.agg #[.int .i64 cap, .slice A n c], .int .i64 least, .int .i64 since] w fun e' w' => e' = .returned (.tuple #[.int .i64 0, .int .i64 1]) ∧ Below w.heap.size w w' := by
  have HN := Lib.hid hn
  have HE := Lib.hid he
  have HC := Lib.hid (hr.alloc hB (.cells #[.int .i64 cap, .slice A n c] 85))
  have E := Lib.hid ((Env.start w).lay #[.int .i64 cap, .slice A n c] 85)
  have hB2 : B ≤ (w.alloc (.cells #[.int .i64 cap, .slice A n c] 85)).heap.size := by simp; omega
  clear hr hB he hn
  go_enter Tryz.func60, Tryz.ntmps60
  go_wp2_with fail
  refine (look_is _ _ _ _ _ n l HN.out _ HE.out hm _ HC.out hB2).mono ?_
  rintro e' w1 ⟨rfl, hb1⟩
  have E1 := Lib.hid (E.out.below hb1)
  clear hb1
  go_wp2
  all_goals first
    | (exfalso; omega)
    | exact bodyPost_ret (v := .tuple #[.int .i64 0, .int .i64 1]) (by simp [results, Tryz.results60, go_sem]) rfl ⟨rfl, E1.out.bel⟩

set_option maxHeartbeats 4000000 in
set_option maxRecDepth 100000 in
theorem lof_ok (cap least since : Int) (A : Option Addr) (c B n : Nat) (l : List Int) (hn : l.length = n) (he : lookE cap least l = 0) (S Q : Int) (hS : s1 l = S) (hQ : s2 l = Q) (v : Nat) (hv : lvV n S Q least = v) (ht0 : 0 ≤ since) (ht1 : since ≤ 1073741824) (hc : n ≤ c) (hm : c ≤ maxLen) (w : World) (hr : Reads w B 1 A n (cellsI l)) (hB : B ≤ w.heap.size) :
    Calls Tryz.prog 60 #[.agg #[.int .i64 cap, .slice A n c], .int .i64 least, .int .i64 since] w fun e' w' => e' = .returned (.tuple #[.int .i64 (Lv.lvF v n S since : Nat), .int .i64 0]) ∧ Below w.heap.size w w' := by
  obtain ⟨hwz, hl0, hl1, hn1⟩ := lookE_zero he
  have hle := (winE_zero hwz).2.2.2
  rw [hn] at hn1
  have hsum : sumsE n S Q = 0 := by have := sums_ok l hle; rw [hn, hS, hQ] at this; exact this
  obtain ⟨g1, g2, g3, g4, g5, g6, g7, g8, g9, g10, g11, g12, g13, g14, g15, g16, g17, g18, g19⟩ := lv_bd hsum (by omega) hl0 hl1
  rw [hv] at g8 g9
  have d0 : 0 ≤ (n : Int) * since := Int.mul_nonneg (by omega) ht0
  have d1 : (n : Int) * since ≤ 68719476736 := by
    have := Int.mul_le_mul g1 ht1 ht0 (by omega : (0 : Int) ≤ 64); omega
  have HN := Lib.hid hn
  have HE := Lib.hid he
  have HLS := Lib.hid (fun (A : Option Addr) (w : World) (hr : Reads w B 1 A n (cellsI l)) (hB : B ≤ w.heap.size) => by
    have := lspread_is cap least A c B n l hn hle hn1 hl0 hl1 S Q hS hQ hc hm w hr hB; rw [hv] at this; exact this)
  have HC := Lib.hid (hr.alloc hB (.cells #[.int .i64 cap, .slice A n c] 85))
  have E := Lib.hid ((Env.start w).lay #[.int .i64 cap, .slice A n c] 85)
  have hB2 : B ≤ (w.alloc (.cells #[.int .i64 cap, .slice A n c] 85)).heap.size := by simp; omega
  have hB3 : B < (w.alloc (.cells #[.int .i64 cap, .slice A n c] 85)).heap.size := by simp; omega
  clear hr hB hn he hwz hle hsum hv hS hQ
  go_enter Tryz.func60, Tryz.ntmps60
  go_wp2_with fail
  refine (look_is _ _ _ _ _ n l HN.out _ HE.out (by omega) _ HC.out hB2).mono ?_
  rintro e' w1 ⟨rfl, hb1⟩
  have E1 := Lib.hid (E.out.below hb1)
  have R1 := Lib.hid (HC.out.below hb1 hB2)
  have hB4 : B ≤ w1.heap.size := Nat.le_trans hB2 hb1.size
  have a0 := E1.out.hd.cell 0
  have a1 := E1.out.hd.cell 1
  have p0 := E1.out.hd.lt
  simp at a0 a1 p0
  clear hb1 hB2 hB3 HC E
  go_wp2_with fail
  refine (HLS.out _ _ R1.out hB4).mono ?_
  rintro e' w2 ⟨rfl, hb2⟩
  have E2 := Lib.hid ((E1.out.below hb2).lay #[.int .i64 n, .int .i64 S, .int .i64 Q] 115)
  clear hb2 E1 R1 HLS a0 a1 p0 hB4 HN HE
  by_cases hd : (n : Int) * since - S ≤ 0
  · have HZ := Lib.hid (show Lv.lvF v n S since = 0 from Lv.sp_zero v hd)
    go_wp2
    refine bodyPost_ret (v := .tuple #[.int .i64 (0 : Nat), .int .i64 0]) (by simp [results, Tryz.results60, go_sem]) rfl ⟨by rw [HZ.out], E2.out.bel⟩
  · obtain ⟨dn, hdn⟩ := Int.eq_ofNat_of_zero_le (show 0 ≤ (n : Int) * since - S by omega)
    have hdp : 0 < dn := by omega
    have hd2 : dn ≤ 68719476736 := by omega
    have hsq : dn * dn ≤ 4722366482869645213696 := Nat.mul_le_mul hd2 hd2
    have hv1 : 1 ≤ v := by omega
    have hv2 : v ≤ 1152921504606846976 := by omega
    have HSP := Lib.hid (show Lv.lvF v n S since = Nat.log2 ((v + dn * dn) / v) by
      unfold Lv.lvF; rw [Lv.sp_pos v (by omega), hdn]; simp)
    have HL := Lib.hid (Lv.log_halv v dn (by omega))
    have HH := Lib.hid (show ∀ w, Calls Tryz.prog 99 #[.agg #[.int .u64 (hiN (v + dn * dn)), .int .u64 (loN (v + dn * dn))], .agg #[.int .u64 0, .int .u64 v]] w fun e w' => e = .returned (.tuple #[.int .i64 (Lv.lvF v n S since : Nat), .int .i64 0]) ∧ Below w.heap.size w w' from fun w => by
      have h := halv_ok (v + dn * dn) v _ (by omega) (by omega) (by omega) HL.out w
      rw [show hiN v = 0 by unfold hiN; omega, show loN v = v by unfold loN; omega, show halvR ((Nat.log2 ((v + dn * dn) / v) : Nat) : Int) = .tuple #[.int .i64 (Nat.log2 ((v + dn * dn) / v) : Nat), .int .i64 0] from if_neg (by omega), ← HSP.out] at h
      exact h)
    have HDN := Lib.hid hdn
    have hdi : 0 < (n : Int) * since - S := by omega
    clear hdn HSP HL hd
    go_wp2_with fail
    refine (mul_w _ _ dn dn (by rw [← HDN.out]; first | rfl | skip) (by rw [← HDN.out]; first | rfl | skip) (by omega) (by omega) _).mono ?_
    rintro e' w3 ⟨rfl, hb3⟩
    have E3 := Lib.hid (E2.out.below hb3)
    clear hb3 E2
    go_wp2_with fail
    refine (wide_add_ok _ _ _ _ v (dn * dn) ⟨by unfold hiN; omega, by unfold loN; omega, by omega⟩ (WN.mk' _ (by omega)) (by omega) _).mono ?_
    rintro e' w4 ⟨rfl, hb4⟩
    have E4 := Lib.hid ((E3.out.below hb4).lay #[.int .u64 (hiN (v + dn * dn)), .int .u64 (loN (v + dn * dn))] 121)
    clear hb4 E3
    go_wp2_with fail
    refine (HH.out _).mono ?_
    rintro e' w5 ⟨rfl, hb5⟩
    go_wp2
    refine bodyPost_ret (v := .tuple #[.int .i64 (Lv.lvF v n S since : Nat), .int .i64 0]) (by simp [results, Tryz.results60, go_sem]) rfl ⟨rfl, (E4.out.below hb5).bel⟩
end Go.Proofs.YtcikljcjhijjdabGreat

namespace Go.Proofs.YtcikljcjhijjdabGreat
open Go.RowKit
set_option linter.unusedSimpArgs false
set_option linter.unusedVariables false

theorem rof_is (A : Option Addr) (c B n : Nat) (l : List Int) (hn : l.length = n) (he : listE l = 0) (S Q : Int) (hS : s1 l = S) (hQ : s2 l = Q) (hc : n ≤ c) (hm : c ≤ maxLen) (w : World) (hr : Reads w B 1 A n (cellsI l)) (hB : B ≤ w.heap.size) :
    Calls Tryz.prog 61 #[.slice A n c] w fun e' w' => e' = .returned (.agg #[.int .i64 n, .int .i64 S, .int .i64 Q]) ∧ Below w.heap.size w w' := by
  subst hn hS hQ
  exact rof_all l (listE_zero he).2 (listE_zero he).1 A c B w hc hm hr hB

set_option maxHeartbeats 4000000 in
set_option maxRecDepth 100000 in
theorem rlevel_ok (least since : Int) (A : Option Addr) (c B n : Nat) (l : List Int) (hn : l.length = n) (he : listE l = 0) (hn1 : 1 ≤ n) (hl0 : 1 ≤ least) (hl1 : least ≤ 16777216) (S Q : Int) (hS : s1 l = S) (hQ : s2 l = Q) (v : Nat) (hv : lvV n S Q least = v) (ht0 : 0 ≤ since) (ht1 : since ≤ 4294967296) (hc : n ≤ c) (hm : c ≤ maxLen) (w : World) (hr : Reads w B 1 A n (cellsI l)) (hB : B ≤ w.heap.size) :
    Calls Tryz.prog 41 #[.slice A n c, .int .i64 least, .int .i64 since] w fun e' w' => e' = .returned (.int .i64 (Lv.lvF v n S since : Nat)) ∧ Below w.heap.size w w' := by
  have hsum : sumsE n S Q = 0 := by have := sums_ok l he; rw [hn, hS, hQ] at this; exact this
  obtain ⟨g1, g2, g3, g4, g5, g6, g7, g8, g9, g10, g11, g12, g13, g14, g15, g16, g17, g18, g19⟩ := lv_bd hsum (by omega) hl0 hl1
  rw [hv] at g8 g9
  have d0 : 0 ≤ (n : Int) * since := Int.mul_nonneg (by omega) ht0
  have d1 : (n : Int) * since ≤ 274877906944 := by
    have := Int.mul_le_mul g1 ht1 ht0 (by omega : (0 : Int) ≤ 64); omega
  have hvc : (n * Q - S * S < lvM n least ∧ lvM n least = v) ∨ (lvM n least ≤ n * Q - S * S ∧ n * Q - S * S = v) := by
    unfold lvV at hv
    split at hv
    · exact .inl ⟨by assumption, hv⟩
    · exact .inr ⟨by omega, hv⟩
  have HRO := Lib.hid (fun w' (h : Below w.heap.size w w') => rof_is A c B n l hn he S Q hS hQ hc hm w' (hr.below h hB) (Nat.le_trans hB h.size))
  have hv1 : 1 ≤ v := by omega
  have hv2 : v ≤ 1152921504606846976 := by omega
  have HW := Lib.hid (show ∀ w, Calls Tryz.prog 64 #[.int .i64 (v : Int)] w fun e w' => e = .returned (.agg #[.int .u64 (hiN v), .int .u64 (loN v)]) ∧ Below w.heap.size w w' from fun w => by
    have := wide_any (v : Int) (by omega) (by omega) w; simpa using this)
  have HBV := Lib.hid (fun w => bits_any v (by omega) w)
  have HLV := Lib.hid (show (Bt.bits v).length ≤ 128 by rw [Bt.len_bits]; exact Bt.blen_le (by omega))
  have HRS := Lib.hid (show ∀ w, Calls Tryz.prog 62 #[.agg #[.int .i64 n, .int .i64 S, .int .i64 Q]] w fun e' w' => e' = .returned (.int .i64 (n * Q - S * S)) ∧ Below w.heap.size w w' from fun w => rspread_ok n S Q hsum w)
  have hM : lvM n least = n * least * (n * least) := rfl
  rw [hM] at g6 g7 hvc
  generalize hsp : (n : Int) * Q - S * S = sp at *
  clear hr hB hn he hsum hv hS hQ hM g16 g17 g18 g19
  rcases hvc with hvc | hvc
  · obtain ⟨hlt, hmm⟩ := hvc
    have HMM := Lib.hid hmm
    clear hmm
    go_enter Tryz.func41, Tryz.ntmps41
    go_wp2_with fail
    refine (HRO.out _ (Below.refl _ _)).mono ?_
    rintro e' w1 ⟨rfl, hb1⟩
    have E1 := Lib.hid (((Env.start w).below hb1).lay #[.int .i64 n, .int .i64 S, .int .i64 Q] 115)
    clear hb1 HRO
    go_wp2_with fail
    refine (HRS.out _).mono ?_
    rintro e' w2 ⟨rfl, hb2⟩
    have E2 := Lib.hid (E1.out.below hb2)
    have a0 := E2.out.hd.cell 0
    have a1 := E2.out.hd.cell 1
    have p0 := E2.out.hd.lt
    simp at a0 a1 p0
    clear hb2 E1 HRS
    by_cases hd : (n : Int) * since - S ≤ 0
    · have HZ := Lib.hid (show Lv.lvF v n S since = 0 from Lv.sp_zero v hd)
      go_wp2
      refine bodyPost_ret (v := .int .i64 (0 : Nat)) (by simp [results, Tryz.results41, go_sem]) rfl ⟨by rw [HZ.out], E2.out.bel⟩
    · obtain ⟨dn, hdn⟩ := Int.eq_ofNat_of_zero_le (show 0 ≤ (n : Int) * since - S by omega)
      have hdp : 0 < dn := by omega
      have hd2 : dn ≤ 274877906944 := by omega
      have hsq : dn * dn ≤ 75557863725914323419136 := Nat.mul_le_mul hd2 hd2
      have HSP := Lib.hid (show Lv.lvF v n S since = Nat.log2 ((v + dn * dn) / v) by
        unfold Lv.lvF; rw [Lv.sp_pos v (by omega), hdn]; simp)
      have HL := Lib.hid (Lv.log_halv v dn (by omega))
      have HH := Lib.hid (show ∀ w, Calls Tryz.prog 68 #[.agg #[.int .u64 (hiN (v + dn * dn)), .int .u64 (loN (v + dn * dn))], .agg #[.int .u64 (hiN v), .int .u64 (loN v)]] w fun e w' => e = .returned (.int .i64 (Lv.lvF v n S since : Nat)) ∧ Below w.heap.size w w' from fun w => by
        rw [HSP.out]
        exact rhalv_ok (v + dn * dn) v _ (by omega) (by omega) HL.out w)
      have HWD := Lib.hid (show ∀ w, Calls Tryz.prog 64 #[.int .i64 (n * since - S)] w fun e w' => e = .returned (.agg #[.int .u64 (hiN dn), .int .u64 (loN dn)]) ∧ Below w.heap.size w w' from fun w => by
        rw [hdn]; have := wide_any (dn : Int) (by omega) (by omega) w; simpa using this)
      have HBD := Lib.hid (fun w => bits_any dn (by omega) w)
      have HLD := Lib.hid (show (Bt.bits dn).length ≤ 128 by rw [Bt.len_bits]; exact Bt.blen_le (by omega))
      have hdi : 0 < (n : Int) * since - S := by omega
      clear hdn HSP HL hd
      go_wp2_with fail
      refine (HWD.out _).mono ?_
      rintro e' w3 ⟨rfl, hb3⟩
      have E3 := Lib.hid (E2.out.below hb3)
      clear hb3 E2 HWD a0 a1 p0
      go_wp2_with fail
      refine (HBD.out _).mono ?_
      rintro e' w4 ⟨A1, c1, l1, rfl, hl1, ho1, hb4⟩
      have E4 := Lib.hid (E3.out.below hb4)
      have R1 := Lib.hid (Reads.of_own ho1)
      have V1 := Lib.hid (show Bt.val l1 = dn by rw [hl1, Bt.val_bits])
      have n1 : l1.length ≤ 128 := by rw [hl1]; exact HLD.out
      clear hl1 ho1 hb4 E3 HBD HLD
      go_wp2_with fail
      rw [HMM.out]
      refine (HW.out _).mono ?_
      rintro e' w5 ⟨rfl, hb5⟩
      have E5 := Lib.hid (E4.out.below hb5)
      have R2 := Lib.hid (Reads.thru R1.out hb5)
      clear hb5 E4 R1
      go_wp2_with fail
      refine (HBV.out _).mono ?_
      rintro e' w6 ⟨A2, c2, l2, rfl, hl2, ho2, hb6⟩
      have E6 := Lib.hid (E5.out.below hb6)
      have R3 := Lib.hid (Reads.thru R2.out hb6)
      have Q3 := Lib.hid (Reads.of_own ho2)
      have V2 := Lib.hid (show Bt.val l2 = v by rw [hl2, Bt.val_bits])
      have n2 : l2.length ≤ 128 := by rw [hl2]; exact HLV.out
      clear hl2 ho2 hb6 E5 R2 HBV HLV
      go_wp2_with fail
      refine (prod_any A1 A1 l1 l1 c1 c1 _ R3.out R3.out (by omega) (by omega)).mono ?_
      rintro e' w7 ⟨A3, c3, l3, rfl, hl3, ho3, hb7⟩
      have E7 := Lib.hid (E6.out.below hb7)
      have Q4 := Lib.hid (Reads.thru Q3.out hb7)
      have R4 := Lib.hid (Reads.of_own ho3)
      have V3 := Lib.hid (show Bt.val l3 = dn * dn by rw [hl3.1, List.take_length, V1.out])
      have n3 : l3.length ≤ 300 := by have := hl3.2.1; omega
      clear hl3 ho3 hb7 E6 R3 Q3
      go_wp2_with fail
      refine (plus_any A2 A3 l2 l3 c2 c3 _ Q4.out R4.out (by omega) (by omega)).mono ?_
      rintro e' w8 ⟨A4, c4, l4, rfl, hl4, ho4, hb8⟩
      have E8 := Lib.hid (E7.out.below hb8)
      have R5 := Lib.hid (Reads.of_own ho4)
      have V4 := Lib.hid (show Bt.val l4 = v + dn * dn by rw [hl4.1, V2.out, V3.out])
      have n4 : l4.length ≤ 400 := by have := hl4.2.2.1; omega
      have HN4 := Lib.hid (show ∀ w, Reads w w.heap.size 1 A4 l4.length (l4.map Value.bool) → Calls Tryz.prog 65 #[.slice A4 l4.length c4] w fun e w' => e = .returned (.tuple #[.agg #[.int .u64 (hiN (v + dn * dn)), .int .u64 (loN (v + dn * dn))], .bool true]) ∧ Below w.heap.size w w' from fun w h => by
        have := num_ok A4 l4 c4 w h (by omega) (by rw [V4.out]; omega)
        rw [V4.out] at this
        exact this)
      clear hl4 ho4 hb8 E7 R4 Q4 V1 V2 V3
      go_wp2_with fail
      refine (HN4.out _ R5.out).mono ?_
      rintro e' w9 ⟨rfl, hb9⟩
      have E9 := Lib.hid ((E8.out.below hb9).lay #[.int .u64 (hiN (v + dn * dn)), .int .u64 (loN (v + dn * dn))] 121)
      have EB := Lib.hid (E8.out.below hb9)
      clear hb9 E8 R5 HN4 V4
      go_upto_region 11 with fail
      generalize hw9 : w9.alloc (.cells #[.int .u64 (hiN (v + dn * dn)), .int .u64 (loN (v + dn * dn))] 121) = W9 at *
      have x0 := E9.out.hd.cell 0
      have x1 := E9.out.hd.cell 1
      have HX := Lib.hid (show ∀ w', Below W9.heap.size W9 w' → w'.cell? ⟨w9.heap.size, 0, none⟩ = some (.int .u64 (hiN (v + dn * dn))) ∧ w'.cell? ⟨w9.heap.size, 1, none⟩ = some (.int .u64 (loN (v + dn * dn))) from fun w' h => ⟨(E9.out.below h).hd.cell 0, (E9.out.below h).hd.cell 1⟩)
      simp at x0 x1
      go_region_with (first
        | (go_at_call 64; refine (HW.out _).mono ?_; rintro e' wa ⟨rfl, hba⟩; have hL : Below W9.heap.size W9 wa := Below.thru' (Below.drew (Below.refl _ _)) hba; obtain ⟨xa, xb⟩ := HX.out _ hL)
        | (go_at_call 68; refine (HH.out _).mono ?_; rintro e' wb ⟨rfl, hbb⟩))
      all_goals
        have hF : Below W9.heap.size W9 wb := Below.thru' (by repeat (first | exact hL | refine Below.drew ?_)) hbb
        go_wp2
        refine bodyPost_ret (v := .int .i64 (Lv.lvF v n S since : Nat)) (by simp [results, Tryz.results41, go_sem]) rfl ⟨rfl, (E9.out.below hF).bel⟩
  · obtain ⟨hge, rfl⟩ := hvc
    have HMM := Lib.hid True.intro
    go_enter Tryz.func41, Tryz.ntmps41
    go_wp2_with fail
    refine (HRO.out _ (Below.refl _ _)).mono ?_
    rintro e' w1 ⟨rfl, hb1⟩
    have E1 := Lib.hid (((Env.start w).below hb1).lay #[.int .i64 n, .int .i64 S, .int .i64 Q] 115)
    clear hb1 HRO
    go_wp2_with fail
    refine (HRS.out _).mono ?_
    rintro e' w2 ⟨rfl, hb2⟩
    have E2 := Lib.hid (E1.out.below hb2)
    have a0 := E2.out.hd.cell 0
    have a1 := E2.out.hd.cell 1
    have p0 := E2.out.hd.lt
    simp at a0 a1 p0
    clear hb2 E1 HRS
    by_cases hd : (n : Int) * since - S ≤ 0
    · have HZ := Lib.hid (show Lv.lvF v n S since = 0 from Lv.sp_zero v hd)
      go_wp2
      refine bodyPost_ret (v := .int .i64 (0 : Nat)) (by simp [results, Tryz.results41, go_sem]) rfl ⟨by rw [HZ.out], E2.out.bel⟩
    · obtain ⟨dn, hdn⟩ := Int.eq_ofNat_of_zero_le (show 0 ≤ (n : Int) * since - S by omega)
      have hdp : 0 < dn := by omega
      have hd2 : dn ≤ 274877906944 := by omega
      have hsq : dn * dn ≤ 75557863725914323419136 := Nat.mul_le_mul hd2 hd2
      have HSP := Lib.hid (show Lv.lvF v n S since = Nat.log2 ((v + dn * dn) / v) by
        unfold Lv.lvF; rw [Lv.sp_pos v (by omega), hdn]; simp)
      have HL := Lib.hid (Lv.log_halv v dn (by omega))
      have HH := Lib.hid (show ∀ w, Calls Tryz.prog 68 #[.agg #[.int .u64 (hiN (v + dn * dn)), .int .u64 (loN (v + dn * dn))], .agg #[.int .u64 (hiN v), .int .u64 (loN v)]] w fun e w' => e = .returned (.int .i64 (Lv.lvF v n S since : Nat)) ∧ Below w.heap.size w w' from fun w => by
        rw [HSP.out]
        exact rhalv_ok (v + dn * dn) v _ (by omega) (by omega) HL.out w)
      have HWD := Lib.hid (show ∀ w, Calls Tryz.prog 64 #[.int .i64 (n * since - S)] w fun e w' => e = .returned (.agg #[.int .u64 (hiN dn), .int .u64 (loN dn)]) ∧ Below w.heap.size w w' from fun w => by
        rw [hdn]; have := wide_any (dn : Int) (by omega) (by omega) w; simpa using this)
      have HBD := Lib.hid (fun w => bits_any dn (by omega) w)
      have HLD := Lib.hid (show (Bt.bits dn).length ≤ 128 by rw [Bt.len_bits]; exact Bt.blen_le (by omega))
      have hdi : 0 < (n : Int) * since - S := by omega
      clear hdn HSP HL hd
      go_wp2_with fail
      refine (HWD.out _).mono ?_
      rintro e' w3 ⟨rfl, hb3⟩
      have E3 := Lib.hid (E2.out.below hb3)
      clear hb3 E2 HWD a0 a1 p0
      go_wp2_with fail
      refine (HBD.out _).mono ?_
      rintro e' w4 ⟨A1, c1, l1, rfl, hl1, ho1, hb4⟩
      have E4 := Lib.hid (E3.out.below hb4)
      have R1 := Lib.hid (Reads.of_own ho1)
      have V1 := Lib.hid (show Bt.val l1 = dn by rw [hl1, Bt.val_bits])
      have n1 : l1.length ≤ 128 := by rw [hl1]; exact HLD.out
      clear hl1 ho1 hb4 E3 HBD HLD
      go_wp2_with fail
      refine (HW.out _).mono ?_
      rintro e' w5 ⟨rfl, hb5⟩
      have E5 := Lib.hid (E4.out.below hb5)
      have R2 := Lib.hid (Reads.thru R1.out hb5)
      clear hb5 E4 R1
      go_wp2_with fail
      refine (HBV.out _).mono ?_
      rintro e' w6 ⟨A2, c2, l2, rfl, hl2, ho2, hb6⟩
      have E6 := Lib.hid (E5.out.below hb6)
      have R3 := Lib.hid (Reads.thru R2.out hb6)
      have Q3 := Lib.hid (Reads.of_own ho2)
      have V2 := Lib.hid (show Bt.val l2 = v by rw [hl2, Bt.val_bits])
      have n2 : l2.length ≤ 128 := by rw [hl2]; exact HLV.out
      clear hl2 ho2 hb6 E5 R2 HBV HLV
      go_wp2_with fail
      refine (prod_any A1 A1 l1 l1 c1 c1 _ R3.out R3.out (by omega) (by omega)).mono ?_
      rintro e' w7 ⟨A3, c3, l3, rfl, hl3, ho3, hb7⟩
      have E7 := Lib.hid (E6.out.below hb7)
      have Q4 := Lib.hid (Reads.thru Q3.out hb7)
      have R4 := Lib.hid (Reads.of_own ho3)
      have V3 := Lib.hid (show Bt.val l3 = dn * dn by rw [hl3.1, List.take_length, V1.out])
      have n3 : l3.length ≤ 300 := by have := hl3.2.1; omega
      clear hl3 ho3 hb7 E6 R3 Q3
      go_wp2_with fail
      refine (plus_any A2 A3 l2 l3 c2 c3 _ Q4.out R4.out (by omega) (by omega)).mono ?_
      rintro e' w8 ⟨A4, c4, l4, rfl, hl4, ho4, hb8⟩
      have E8 := Lib.hid (E7.out.below hb8)
      have R5 := Lib.hid (Reads.of_own ho4)
      have V4 := Lib.hid (show Bt.val l4 = v + dn * dn by rw [hl4.1, V2.out, V3.out])
      have n4 : l4.length ≤ 400 := by have := hl4.2.2.1; omega
      have HN4 := Lib.hid (show ∀ w, Reads w w.heap.size 1 A4 l4.length (l4.map Value.bool) → Calls Tryz.prog 65 #[.slice A4 l4.length c4] w fun e w' => e = .returned (.tuple #[.agg #[.int .u64 (hiN (v + dn * dn)), .int .u64 (loN (v + dn * dn))], .bool true]) ∧ Below w.heap.size w w' from fun w h => by
        have := num_ok A4 l4 c4 w h (by omega) (by rw [V4.out]; omega)
        rw [V4.out] at this
        exact this)
      clear hl4 ho4 hb8 E7 R4 Q4 V1 V2 V3
      go_wp2_with fail
      refine (HN4.out _ R5.out).mono ?_
      rintro e' w9 ⟨rfl, hb9⟩
      have E9 := Lib.hid ((E8.out.below hb9).lay #[.int .u64 (hiN (v + dn * dn)), .int .u64 (loN (v + dn * dn))] 121)
      have EB := Lib.hid (E8.out.below hb9)
      clear hb9 E8 R5 HN4 V4
      go_upto_region 11 with fail
      generalize hw9 : w9.alloc (.cells #[.int .u64 (hiN (v + dn * dn)), .int .u64 (loN (v + dn * dn))] 121) = W9 at *
      have x0 := E9.out.hd.cell 0
      have x1 := E9.out.hd.cell 1
      have HX := Lib.hid (show ∀ w', Below W9.heap.size W9 w' → w'.cell? ⟨w9.heap.size, 0, none⟩ = some (.int .u64 (hiN (v + dn * dn))) ∧ w'.cell? ⟨w9.heap.size, 1, none⟩ = some (.int .u64 (loN (v + dn * dn))) from fun w' h => ⟨(E9.out.below h).hd.cell 0, (E9.out.below h).hd.cell 1⟩)
      simp at x0 x1
      go_region_with (first
        | (go_at_call 64; refine (HW.out _).mono ?_; rintro e' wa ⟨rfl, hba⟩; have hL : Below W9.heap.size W9 wa := Below.thru' (Below.drew (Below.refl _ _)) hba; obtain ⟨xa, xb⟩ := HX.out _ hL)
        | (go_at_call 68; refine (HH.out _).mono ?_; rintro e' wb ⟨rfl, hbb⟩))
      all_goals
        have hF : Below W9.heap.size W9 wb := Below.thru' (by repeat (first | exact hL | refine Below.drew ?_)) hbb
        go_wp2
        refine bodyPost_ret (v := .int .i64 (Lv.lvF v n S since : Nat)) (by simp [results, Tryz.results41, go_sem]) rfl ⟨rfl, (E9.out.below hF).bel⟩
end Go.Proofs.YtcikljcjhijjdabGreat
