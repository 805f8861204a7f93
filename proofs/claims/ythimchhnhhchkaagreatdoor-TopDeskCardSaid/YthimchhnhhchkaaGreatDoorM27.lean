/- level.Of. (with what it needs) -/
import Derived.Test.YthimchhnhhchkaaGreatDoorM10
import Derived.Test.YthimchhnhhchkaaGreatDoorM25
import Derived.Test.YthimchhnhhchkaaGreatDoorM26
import Derived.Deep.DeepCutAuto
import Derived.Test.YthimchhnhhchkaaGreatDoorM05
import Derived.Test.YthimchhnhhchkaaGreatDoorM04
namespace Go.Proofs.YthimchhnhhchkaaGreatDoor
open Go.RowKit
set_option linter.unusedSimpArgs false
set_option linter.unusedVariables false

set_option maxRecDepth 100000 in
set_option maxHeartbeats 1000000 in
theorem lof_err (cap least since : Int) (A : Option Addr) (c B n : Nat) (l : List Int) (hn : l.length = n) (e : Int) (he : lookE cap least l = e) (hz : e ≠ 0) (hm : n ≤ maxLen) (w : World) (hr : Reads w B 1 A n (cellsI l)) (hB : B ≤ w.heap.size) :
    Calls Tryz.prog 64 #[.agg #[.int .i64 cap, .slice A n c], .int .i64 least, .int .i64 since] w fun e' w' => e' = .returned (.tuple #[.int .i64 0, .int .i64 e]) ∧ Below w.heap.size w w' := by
  have HN := Lib.hid hn
  have HE := Lib.hid he
  have HC := Lib.hid (hr.alloc hB (.cells #[.int .i64 cap, .slice A n c] 97))
  have E := Lib.hid ((Env.start w).lay #[.int .i64 cap, .slice A n c] 97)
  have hB2 : B ≤ (w.alloc (.cells #[.int .i64 cap, .slice A n c] 97)).heap.size := by simp; omega
  clear hr hB he hn
  go_enter Tryz.func64, Tryz.ntmps64
  go_wp2_with fail
  refine (look_is _ _ _ _ _ n l HN.out _ HE.out hm _ HC.out hB2).mono ?_
  rintro e' w1 ⟨rfl, hb1⟩
  have E1 := Lib.hid (E.out.below hb1)
  clear hb1
  go_wp2
  refine bodyPost_ret (v := .tuple #[.int .i64 0, .int .i64 e]) (by simp [results, Tryz.results64, go_sem]) rfl ⟨rfl, E1.out.bel⟩

set_option maxRecDepth 100000 in
set_option maxHeartbeats 1000000 in
theorem lof_time (cap least since : Int) (A : Option Addr) (c B n : Nat) (l : List Int) (hn : l.length = n) (he : lookE cap least l = 0) (ht : since < 0 ∨ 1073741824 < since) (hm : n ≤ maxLen) (w : World) (hr : Reads w B 1 A n (cellsI l)) (hB : B ≤ w.heap.size) :
    Calls Tryz.prog 64 #[.agg #[.int .i64 cap, .slice A n c], .int .i64 least, .int .i64 since] w fun e' w' => e' = .returned (.tuple #[.int .i64 0, .int .i64 1]) ∧ Below w.heap.size w w' := by
  have HN := Lib.hid hn
  have HE := Lib.hid he
  have HC := Lib.hid (hr.alloc hB (.cells #[.int .i64 cap, .slice A n c] 97))
  have E := Lib.hid ((Env.start w).lay #[.int .i64 cap, .slice A n c] 97)
  have hB2 : B ≤ (w.alloc (.cells #[.int .i64 cap, .slice A n c] 97)).heap.size := by simp; omega
  clear hr hB he hn
  go_enter Tryz.func64, Tryz.ntmps64
  go_wp2_with fail
  refine (look_is _ _ _ _ _ n l HN.out _ HE.out hm _ HC.out hB2).mono ?_
  rintro e' w1 ⟨rfl, hb1⟩
  have E1 := Lib.hid (E.out.below hb1)
  clear hb1
  go_wp2
  all_goals first
    | (exfalso; omega)
    | exact bodyPost_ret (v := .tuple #[.int .i64 0, .int .i64 1]) (by simp [results, Tryz.results64, go_sem]) rfl ⟨rfl, E1.out.bel⟩

set_option maxHeartbeats 4000000 in
set_option maxRecDepth 100000 in
theorem lof_ok (cap least since : Int) (A : Option Addr) (c B n : Nat) (l : List Int) (hn : l.length = n) (he : lookE cap least l = 0) (S Q : Int) (hS : s1 l = S) (hQ : s2 l = Q) (v : Nat) (hv : lvV n S Q least = v) (ht0 : 0 ≤ since) (ht1 : since ≤ 1073741824) (hc : n ≤ c) (hm : c ≤ maxLen) (w : World) (hr : Reads w B 1 A n (cellsI l)) (hB : B ≤ w.heap.size) :
    Calls Tryz.prog 64 #[.agg #[.int .i64 cap, .slice A n c], .int .i64 least, .int .i64 since] w fun e' w' => e' = .returned (.tuple #[.int .i64 (Lv.lvF v n S since : Nat), .int .i64 0]) ∧ Below w.heap.size w w' := by
  obtain ⟨hwz, hl0, hl1, hn1⟩ := lookE_zero he
  have hle := (winE_zero hwz).2.2.2
  rw [hn] at hn1
  have hsum : sumsE n S Q = 0 := by have := sums_ok l hle; rw [hn, hS, hQ] at this; exact this
  obtain ⟨g1, g2, g3, g4, g5, g6, g7, g8, g9, g10, g11, g12, g13, g14, g15, g16, g17, g18, g19⟩ := lv_bd hsum (by omega) hl0 hl1
  rw [hv] at g8 g9
  have d0 : 0 ≤ (n : Int) * since := Int.mul_nonneg (by omega) ht0
  have d1 : (n : Int) * since ≤ 68719476736 := by
    have := Int.mul_le_mul g1 ht1 ht0 (by omega : (0 : Int) ≤ 64); omega
  have HN := Lib.hid hn
  have HE := Lib.hid he
  have HLS := Lib.hid (fun (A : Option Addr) (w : World) (hr : Reads w B 1 A n (cellsI l)) (hB : B ≤ w.heap.size) => by
    have := lspread_is cap least A c B n l hn hle hn1 hl0 hl1 S Q hS hQ hc hm w hr hB; rw [hv] at this; exact this)
  have HC := Lib.hid (hr.alloc hB (.cells #[.int .i64 cap, .slice A n c] 97))
  have E := Lib.hid ((Env.start w).lay #[.int .i64 cap, .slice A n c] 97)
  have hB2 : B ≤ (w.alloc (.cells #[.int .i64 cap, .slice A n c] 97)).heap.size := by simp; omega
  have hB3 : B < (w.alloc (.cells #[.int .i64 cap, .slice A n c] 97)).heap.size := by simp; omega
  clear hr hB hn he hwz hle hsum hv hS hQ
  go_enter Tryz.func64, Tryz.ntmps64
  go_wp2_with fail
  refine (look_is _ _ _ _ _ n l HN.out _ HE.out (by omega) _ HC.out hB2).mono ?_
  rintro e' w1 ⟨rfl, hb1⟩
  have E1 := Lib.hid (E.out.below hb1)
  have R1 := Lib.hid (HC.out.below hb1 hB2)
  have hB4 : B ≤ w1.heap.size := Nat.le_trans hB2 hb1.size
  have a0 := E1.out.hd.cell 0
  have a1 := E1.out.hd.cell 1
  have p0 := E1.out.hd.lt
  simp at a0 a1 p0
  clear hb1 hB2 hB3 HC E
  go_wp2_with fail
  refine (HLS.out _ _ R1.out hB4).mono ?_
  rintro e' w2 ⟨rfl, hb2⟩
  have E2 := Lib.hid ((E1.out.below hb2).lay #[.int .i64 n, .int .i64 S, .int .i64 Q] 87)
  clear hb2 E1 R1 HLS a0 a1 p0 hB4 HN HE
  by_cases hd : (n : Int) * since - S ≤ 0
  · have HZ := Lib.hid (show Lv.lvF v n S since = 0 from Lv.sp_zero v hd)
    go_wp2
    refine bodyPost_ret (v := .tuple #[.int .i64 (0 : Nat), .int .i64 0]) (by simp [results, Tryz.results64, go_sem]) rfl ⟨by rw [HZ.out], E2.out.bel⟩
  · obtain ⟨dn, hdn⟩ := Int.eq_ofNat_of_zero_le (show 0 ≤ (n : Int) * since - S by omega)
    have hdp : 0 < dn := by omega
    have hd2 : dn ≤ 68719476736 := by omega
    have hsq : dn * dn ≤ 4722366482869645213696 := Nat.mul_le_mul hd2 hd2
    have hv1 : 1 ≤ v := by omega
    have hv2 : v ≤ 1152921504606846976 := by omega
    have HSP := Lib.hid (show Lv.lvF v n S since = Nat.log2 ((v + dn * dn) / v) by
      unfold Lv.lvF; rw [Lv.sp_pos v (by omega), hdn]; simp)
    have HL := Lib.hid (Lv.log_halv v dn (by omega))
    have HH := Lib.hid (show ∀ w, Calls Tryz.prog 40 #[.agg #[.int .u64 (hiN (v + dn * dn)), .int .u64 (loN (v + dn * dn))], .agg #[.int .u64 0, .int .u64 v]] w fun e w' => e = .returned (.tuple #[.int .i64 (Lv.lvF v n S since : Nat), .int .i64 0]) ∧ Below w.heap.size w w' from fun w => by
      have h := halv_ok (v + dn * dn) v _ (by omega) (by omega) (by omega) HL.out w
      rw [show hiN v = 0 by unfold hiN; omega, show loN v = v by unfold loN; omega, show halvR ((Nat.log2 ((v + dn * dn) / v) : Nat) : Int) = .tuple #[.int .i64 (Nat.log2 ((v + dn * dn) / v) : Nat), .int .i64 0] from if_neg (by omega), ← HSP.out] at h
      exact h)
    have HDN := Lib.hid hdn
    have hdi : 0 < (n : Int) * since - S := by omega
    clear hdn HSP HL hd
    go_wp2_with fail
    refine (mul_w _ _ dn dn (by rw [← HDN.out]; first | rfl | skip) (by rw [← HDN.out]; first | rfl | skip) (by omega) (by omega) _).mono ?_
    rintro e' w3 ⟨rfl, hb3⟩
    have E3 := Lib.hid (E2.out.below hb3)
    clear hb3 E2
    go_wp2_with fail
    refine (wide_add_ok _ _ _ _ v (dn * dn) ⟨by unfold hiN; omega, by unfold loN; omega, by omega⟩ (WN.mk' _ (by omega)) (by omega) _).mono ?_
    rintro e' w4 ⟨rfl, hb4⟩
    have E4 := Lib.hid ((E3.out.below hb4).lay #[.int .u64 (hiN (v + dn * dn)), .int .u64 (loN (v + dn * dn))] 29)
    clear hb4 E3
    go_wp2_with fail
    refine (HH.out _).mono ?_
    rintro e' w5 ⟨rfl, hb5⟩
    go_wp2
    refine bodyPost_ret (v := .tuple #[.int .i64 (Lv.lvF v n S since : Nat), .int .i64 0]) (by simp [results, Tryz.results64, go_sem]) rfl ⟨rfl, (E4.out.below hb5).bel⟩
end Go.Proofs.YthimchhnhhchkaaGreatDoor

namespace Go.Proofs.YthimchhnhhchkaaGreatDoor
open Go.RowKit
set_option linter.unusedSimpArgs false
set_option linter.unusedVariables false






















































































































































































































































end Go.Proofs.YthimchhnhhchkaaGreatDoor
