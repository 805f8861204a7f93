/- The reference's Cantelli and Chebyshev, walked. -/
import Derived.Test.YtignljfeihlanaaStatS
import Derived.Test.YtignljfeihlanaaRootRB
import Derived.Test.YtignljfeihlanaaRw
import Derived.Deep.DeepCutAuto
namespace Go.Proofs.Ytignljfeihlanaa
open Go.RowKit
set_option linter.unusedSimpArgs false
set_option linter.unusedVariables false

theorem wide_nat (x : Nat) (hx : x ≤ 9223372036854775807) (w : World) : Calls Try.prog 24 #[.int .i64 (x : Int)] w fun e w' => e = .returned (.agg #[.int .u64 (hiN x), .int .u64 (loN x)]) ∧ Below w.heap.size w w' := by
  have := wide_any (x : Int) (by omega) (by omega) w
  simpa using this
theorem bits_len {x : Nat} (h : x < 2 ^ 128) : (Bt.bits x).length ≤ 128 := by rw [Bt.len_bits]; exact Bt.blen_le h
theorem sums_nat' {n s q : Int} (he : sumsE n s q = 0) : n ≤ 64 ∧ 0 ≤ s ∧ s ≤ 1073741824 ∧ 0 ≤ n * q - s * s ∧ n * q - s * s ≤ 1152921504606846976 := by
  obtain ⟨hA, hB⟩ := sumsE_zero he
  obtain ⟨b1, b2, b3, b4, b5, b6⟩ := hA.bounds
  obtain ⟨h0, h1, h2, h3, h4, h5⟩ := hA
  exact ⟨h1, h2, b1, by omega, by omega⟩
theorem min_div {n k sp X : Nat} (hX : 0 < X) (hk : k ≤ n) (h1 : k * X ≤ sp) (h2 : k = n ∨ sp < (k + 1) * X) : min n (sp / X) = k := by
  have a : k ≤ sp / X := (Nat.le_div_iff_mul_le hX).2 h1
  rcases h2 with h2 | h2
  · omega
  · have b := (Nat.div_lt_iff_lt_mul hX).2 h2
    omega

set_option maxHeartbeats 16000000 in
set_option maxRecDepth 100000 in
theorem rcheb_ok (n d sp : Nat) (s q : Int) (he : sumsE n s q = 0) (hsp : (n : Int) * q - s * s = sp) (ht0 : 1 ≤ d) (ht1 : d ≤ 1073741824) (w : World) :
    Calls Try.prog 13 #[.agg #[.int .i64 n, .int .i64 s, .int .i64 q], .int .i64 d] w fun e' w' => e' = .returned (.int .i64 (min n (sp / (n * (d * d))) : Nat)) ∧ Below w.heap.size w w' := by
  obtain ⟨hn64, hs0, hs1, hq0, hq1⟩ := sums_nat' he
  have hn64' : n ≤ 64 := by omega
  have hspb : sp ≤ 1152921504606846976 := by omega
  have HWD := Lib.hid (wide_nat d (by omega))
  have HBD := Lib.hid (fun w => bits_any d (by omega) w)
  have HLD := Lib.hid (bits_len (x := d) (by omega))
  have HWN := Lib.hid (wide_nat n (by omega))
  have HBN := Lib.hid (fun w => bits_any n (by omega) w)
  have HLN := Lib.hid (bits_len (x := n) (by omega))
  have HWS := Lib.hid (wide_nat sp (by omega))
  have HBS := Lib.hid (fun w => bits_any sp (by omega) w)
  have HLS := Lib.hid (bits_len (x := sp) (by omega))
  have HSP := Lib.hid (show ∀ w, Calls Try.prog 26 #[.agg #[.int .i64 n, .int .i64 s, .int .i64 q]] w fun e' w' => e' = .returned (.int .i64 (sp : Int)) ∧ Below w.heap.size w w' from fun w => by
    have := rspread_ok n s q he w; rw [hsp] at this; exact this)
  have E := Lib.hid ((Env.start w).lay #[.int .i64 n, .int .i64 s, .int .i64 q] 24)
  have HD1 := Lib.hid (show 1 ≤ d * d from Nat.mul_le_mul ht0 ht0)
  clear he hsp
  go_enter Try.func13, Try.ntmps13
  go_wp2_with fail
  go_loopw [5] (fun kv wr => ∃ k : Nat, k ≤ n ∧ kv = .int .i64 (k : Int) ∧ k * (n * (d * d)) ≤ sp ∧ Env w wr [(w.heap.size, 24, #[.int .i64 n, .int .i64 s, .int .i64 q])]) (fun kv _ => n - (intOf kv).toNat)
  case atStart => exact ⟨0, by omega, rfl, by simp, E.out⟩
  case round =>
    obtain ⟨k, hk, rfl, hks, hE⟩ := hrel
    have F := Lib.hid hE
    have HK := Lib.hid hks
    have x0 := F.out.hd.cell 0
    have p0 := F.out.hd.lt
    simp at x0 p0
    clear hE hks E
    by_cases hlt : k < n
    · go_wp2_with fail
      refine (HWD.out _).mono ?_
      rintro e' a1 ⟨rfl, ha1⟩
      have F1 := Lib.hid (F.out.below ha1)
      clear ha1 F x0 p0
      go_wp2_with fail
      refine (HBD.out _).mono ?_
      rintro e' a2 ⟨C1, d1, m1, rfl, hm1, ho1, ha2⟩
      have F2 := Lib.hid (F1.out.below ha2)
      have R1 := Lib.hid (Reads.of_own ho1)
      have V1 := Lib.hid (show Bt.val m1 = d by rw [hm1, Bt.val_bits])
      have n1 : m1.length ≤ 128 := by rw [hm1]; exact HLD.out
      clear hm1 ho1 ha2 F1
      go_wp2_with fail
      refine (HWD.out _).mono ?_
      rintro e' a3 ⟨rfl, ha3⟩
      have F3 := Lib.hid (F2.out.below ha3)
      have R1a := Lib.hid (Reads.thru R1.out ha3)
      clear ha3 F2 R1
      go_wp2_with fail
      refine (HBD.out _).mono ?_
      rintro e' a4 ⟨C2, d2, m2, rfl, hm2, ho2, ha4⟩
      have F4 := Lib.hid (F3.out.below ha4)
      have R1b := Lib.hid (Reads.thru R1a.out ha4)
      have R2 := Lib.hid (Reads.of_own ho2)
      have V2 := Lib.hid (show Bt.val m2 = d by rw [hm2, Bt.val_bits])
      have n2 : m2.length ≤ 128 := by rw [hm2]; exact HLD.out
      clear hm2 ho2 ha4 F3 R1a
      go_wp2_with fail
      refine (prod_any C1 C2 m1 m2 d1 d2 _ R1b.out R2.out (by omega) (by omega)).mono ?_
      rintro e' a5 ⟨C3, d3, m3, rfl, hm3, ho3, ha5⟩
      have F5 := Lib.hid (F4.out.below ha5)
      have R3 := Lib.hid (Reads.of_own ho3)
      have V3 := Lib.hid (show Bt.val m3 = d * d by rw [hm3.1, List.take_length, V1.out, V2.out])
      have n3 : m3.length ≤ 300 := by have := hm3.2.1; omega
      clear hm3 ho3 ha5 F4 R1b R2 V1 V2
      have HW1 := Lib.hid (show ∀ w, Calls Try.prog 24 #[.int .i64 ((k : Int) + 1)] w fun e w' => e = .returned (.agg #[.int .u64 (hiN (k + 1)), .int .u64 (loN (k + 1))]) ∧ Below w.heap.size w w' from fun w => wide_nat (k + 1) (by omega) w)
      have HB1 := Lib.hid (fun w => bits_any (k + 1) (by omega) w)
      have HL1 := Lib.hid (bits_len (x := k + 1) (by omega))
      obtain ⟨cc, hcc⟩ : ∃ cc, cc = cmpN ((k + 1) * (n * (d * d))) sp := ⟨_, rfl⟩
      have HCC := Lib.hid hcc
      have HMUL := Lib.hid (show (k + 1) * n * (d * d) = (k + 1) * (n * (d * d)) from Nat.mul_assoc _ _ _)
      have hwr : IntKind.i64.wrap ((k : Int) + 1) = (k : Int) + 1 := by rw [IntKind.wrap_i64]; omega
      clear hcc
      go_upto_region 4 with fail
      have HS := Lib.hid (show ∀ w', Below a5.heap.size a5 w' → (Below a5.heap.size a5 w' ∧ w'.cell? ⟨w.heap.size, 0, none⟩ = some (.int .i64 n) ∧ w'.cell? ⟨w.heap.size, 1, none⟩ = some (.int .i64 s) ∧ w'.cell? ⟨w.heap.size, 2, none⟩ = some (.int .i64 q))
        from fun w' h => ⟨h, (F5.out.below h).hd.cell 0, (F5.out.below h).hd.cell 1, (F5.out.below h).hd.cell 2⟩)
      go_region_held3 (fun w' => Below a5.heap.size a5 w' ∧ w'.cell? ⟨w.heap.size, 0, none⟩ = some (.int .i64 n) ∧ w'.cell? ⟨w.heap.size, 1, none⟩ = some (.int .i64 s) ∧ w'.cell? ⟨w.heap.size, 2, none⟩ = some (.int .i64 q))
        ((refine HS.out _ ?_; repeat (first | (with_reducible exact Below.refl _ _) | (with_reducible refine Below.drew ?_) | (with_reducible refine Below.thru' ?_ hv10) | (with_reducible refine Below.thru' ?_ hv9) | (with_reducible refine Below.thru' ?_ hv8) | (with_reducible refine Below.thru' ?_ hv7) | (with_reducible refine Below.thru' ?_ hv6) | (with_reducible refine Below.thru' ?_ hv5) | (with_reducible refine Below.thru' ?_ hv4) | (with_reducible refine Below.thru' ?_ hv3) | (with_reducible refine Below.thru' ?_ hv2) | (with_reducible refine Below.thru' ?_ hv1))))
        (first
          | (go_at_call 24; (with_reducible refine (HW1.out _).mono ?_); rintro e' v1 ⟨rfl, hv1⟩)
          | (go_at_call 23; (with_reducible refine (HB1.out _).mono ?_); rintro e' v2 ⟨A2, c2, l2, rfl, hl2, ho2, hv2⟩; have HL2 := Lib.hid hl2; clear hl2)
          | (go_at_call 24; (with_reducible refine (HWN.out _).mono ?_); rintro e' v3 ⟨rfl, hv3⟩)
          | (go_at_call 23; (with_reducible refine (HBN.out _).mono ?_); rintro e' v4 ⟨A4, c4, l4, rfl, hl4, ho4, hv4⟩; have HL4 := Lib.hid hl4; clear hl4)
          | (go_at_call 27; have hn2 : l2.length ≤ 128 := (by rw [HL2.out]; exact HL1.out); have hn4 : l4.length ≤ 128 := (by rw [HL4.out]; exact HLN.out); (with_reducible refine (prod_any A2 A4 l2 l4 c2 c4 _ (Reads.thru (Reads.of_own ho2) (by repeat (first | (with_reducible exact Below.refl _ _) | (with_reducible refine Below.drew ?_) | (with_reducible refine Below.thru' ?_ hv10) | (with_reducible refine Below.thru' ?_ hv9) | (with_reducible refine Below.thru' ?_ hv8) | (with_reducible refine Below.thru' ?_ hv7) | (with_reducible refine Below.thru' ?_ hv6) | (with_reducible refine Below.thru' ?_ hv5) | (with_reducible refine Below.thru' ?_ hv4) | (with_reducible refine Below.thru' ?_ hv3) | (with_reducible refine Below.thru' ?_ hv2) | (with_reducible refine Below.thru' ?_ hv1)))) (Reads.thru (Reads.of_own ho4) (by repeat (first | (with_reducible exact Below.refl _ _) | (with_reducible refine Below.drew ?_) | (with_reducible refine Below.thru' ?_ hv10) | (with_reducible refine Below.thru' ?_ hv9) | (with_reducible refine Below.thru' ?_ hv8) | (with_reducible refine Below.thru' ?_ hv7) | (with_reducible refine Below.thru' ?_ hv6) | (with_reducible refine Below.thru' ?_ hv5) | (with_reducible refine Below.thru' ?_ hv4) | (with_reducible refine Below.thru' ?_ hv3) | (with_reducible refine Below.thru' ?_ hv2) | (with_reducible refine Below.thru' ?_ hv1)))) (by omega) (by omega)).mono ?_); rintro e' v5 ⟨A5, c5, l5, rfl, hl5, ho5, hv5⟩; have HL5 := Lib.hid hl5; clear hl5)
          | (go_at_call 27; have hn5 : l5.length ≤ 300 := (by have := HL5.out.2.1; omega); (with_reducible refine (prod_any A5 C3 l5 m3 c5 d3 _ (Reads.thru (Reads.of_own ho5) (by repeat (first | (with_reducible exact Below.refl _ _) | (with_reducible refine Below.drew ?_) | (with_reducible refine Below.thru' ?_ hv10) | (with_reducible refine Below.thru' ?_ hv9) | (with_reducible refine Below.thru' ?_ hv8) | (with_reducible refine Below.thru' ?_ hv7) | (with_reducible refine Below.thru' ?_ hv6) | (with_reducible refine Below.thru' ?_ hv5) | (with_reducible refine Below.thru' ?_ hv4) | (with_reducible refine Below.thru' ?_ hv3) | (with_reducible refine Below.thru' ?_ hv2) | (with_reducible refine Below.thru' ?_ hv1)))) (Reads.thru R3.out (by repeat (first | (with_reducible exact Below.refl _ _) | (with_reducible refine Below.drew ?_) | (with_reducible refine Below.thru' ?_ hv10) | (with_reducible refine Below.thru' ?_ hv9) | (with_reducible refine Below.thru' ?_ hv8) | (with_reducible refine Below.thru' ?_ hv7) | (with_reducible refine Below.thru' ?_ hv6) | (with_reducible refine Below.thru' ?_ hv5) | (with_reducible refine Below.thru' ?_ hv4) | (with_reducible refine Below.thru' ?_ hv3) | (with_reducible refine Below.thru' ?_ hv2) | (with_reducible refine Below.thru' ?_ hv1)))) (by omega) (by omega)).mono ?_); rintro e' v6 ⟨A6, c6, l6, rfl, hl6, ho6, hv6⟩; have HL6 := Lib.hid hl6; clear hl6)
          | (go_at_call 26; (with_reducible refine (HSP.out _).mono ?_); rintro e' v7 ⟨rfl, hv7⟩)
          | (go_at_call 24; (with_reducible refine (HWS.out _).mono ?_); rintro e' v8 ⟨rfl, hv8⟩)
          | (go_at_call 23; (with_reducible refine (HBS.out _).mono ?_); rintro e' v9 ⟨A9, c9, l9, rfl, hl9, ho9, hv9⟩; have HL9 := Lib.hid hl9; clear hl9)
          | (go_at_call 28; have hn9 : l9.length ≤ 128 := (by rw [HL9.out]; exact HLS.out); have hn6 : l6.length ≤ 700 := (by have := HL6.out.2.1; omega); have hq6 : Bt.val l6 = (k + 1) * (n * (d * d)) := (by rw [HL6.out.1, List.take_length, HL5.out.1, List.take_length, HL2.out, HL4.out, Bt.val_bits, Bt.val_bits, V3.out]; exact HMUL.out); have hq9 : Bt.val l9 = sp := (by rw [HL9.out, Bt.val_bits]); (with_reducible refine (order_is A6 A9 l6 l9 c6 c9 _ ((k + 1) * (n * (d * d))) sp _ (Reads.thru (Reads.of_own ho6) (by repeat (first | (with_reducible exact Below.refl _ _) | (with_reducible refine Below.drew ?_) | (with_reducible refine Below.thru' ?_ hv10) | (with_reducible refine Below.thru' ?_ hv9) | (with_reducible refine Below.thru' ?_ hv8) | (with_reducible refine Below.thru' ?_ hv7) | (with_reducible refine Below.thru' ?_ hv6) | (with_reducible refine Below.thru' ?_ hv5) | (with_reducible refine Below.thru' ?_ hv4) | (with_reducible refine Below.thru' ?_ hv3) | (with_reducible refine Below.thru' ?_ hv2) | (with_reducible refine Below.thru' ?_ hv1)))) (Reads.thru (Reads.of_own ho9) (by repeat (first | (with_reducible exact Below.refl _ _) | (with_reducible refine Below.drew ?_) | (with_reducible refine Below.thru' ?_ hv10) | (with_reducible refine Below.thru' ?_ hv9) | (with_reducible refine Below.thru' ?_ hv8) | (with_reducible refine Below.thru' ?_ hv7) | (with_reducible refine Below.thru' ?_ hv6) | (with_reducible refine Below.thru' ?_ hv5) | (with_reducible refine Below.thru' ?_ hv4) | (with_reducible refine Below.thru' ?_ hv3) | (with_reducible refine Below.thru' ?_ hv2) | (with_reducible refine Below.thru' ?_ hv1)))) (by omega) (by omega) hq6 hq9).mono ?_); rintro e' v10 ⟨rfl, rfl⟩; rw [← HCC.out]))
      rename_i hheld
      have F6 := Lib.hid (F5.out.below hheld.1)
      clear hheld HS hv1 hv2 hv3 hv4 hv5 hv6 hv7 hv8 hv9 ho2 ho4 ho5 ho6 ho9 HL2 HL4 HL5 HL6 HL9 hn2 hn4 hn5 hn6 hn9 hq6 hq9 F5 R3 V3 HW1 HB1 HL1
      by_cases hle : (k + 1) * (n * (d * d)) ≤ sp
      · have hc0 : cc ≤ 0 := by rw [HCC.out]; exact cmpN_le0 hle
        have HLE := Lib.hid hle
        clear hle
        go_wp2
        go_roundw
        case rel => exact ⟨k + 1, by omega, by simp, HLE.out, F6.out⟩
        case measure => simp [intOf]; omega
      · have hc0 : 0 < cc := by rw [HCC.out]; exact cmpN_pos0 (by omega)
        have HMIN := Lib.hid (min_div (Nat.lt_of_lt_of_le (Nat.lt_of_lt_of_le (by omega : 0 < n) (Nat.le_mul_of_pos_right n HD1.out)) (Nat.le_refl _)) hk HK.out (.inr (by omega)))
        clear hle
        go_wp2
        refine bodyPost_ret (v := .int .i64 k) (by simp [results, Try.results13, go_sem]) rfl ⟨by rw [HMIN.out], F6.out.bel⟩
    · have hkn : k = n := by omega
      have HMIN := Lib.hid (show min n (sp / (n * (d * d))) = n by
        have h1 := HK.out
        rw [hkn] at h1
        rcases Nat.eq_zero_or_pos n with h0 | h0
        · rw [h0, Nat.zero_min]
        · exact min_div (Nat.lt_of_lt_of_le h0 (Nat.le_mul_of_pos_right n HD1.out)) (Nat.le_refl _) h1 (.inl rfl))
      subst hkn
      go_wp2
      refine bodyPost_ret (v := .int .i64 k) (by simp [results, Try.results13, go_sem]) rfl ⟨by rw [HMIN.out], F.out.bel⟩

set_option maxHeartbeats 1000000 in
theorem rcant_low (n s q t : Int) (he : sumsE n s q = 0) (ht0 : 0 ≤ t) (ht1 : t ≤ 1073741824) (hd : n * t - s ≤ 0) (w : World) :
    Calls Try.prog 12 #[.agg #[.int .i64 n, .int .i64 s, .int .i64 q], .int .i64 t] w fun e' w' => e' = .returned (.int .i64 n) ∧ Below w.heap.size w w' := by
  obtain ⟨hn64, hs0, hs1, hq0, hq1⟩ := sums_nat' he
  have hn0 : 0 ≤ n := (sumsE_zero he).1.1
  have d0 : 0 ≤ n * t := Int.mul_nonneg hn0 ht0
  clear he hq0 hq1
  go_enter Try.func12, Try.ntmps12
  go_wp2
  all_goals refine bodyPost_ret (v := .int .i64 n) (by simp [results, Try.results12, go_sem] <;> omega) rfl ⟨rfl, (Below.refl _ _).alloc (Nat.le_refl _) _⟩

set_option maxHeartbeats 16000000 in
set_option maxRecDepth 100000 in
theorem rcant_ok (n d sp : Nat) (s q t : Int) (he : sumsE n s q = 0) (hsp : (n : Int) * q - s * s = sp) (ht0 : 0 ≤ t) (ht1 : t ≤ 1073741824) (hd : (n : Int) * t - s = d) (hd1 : 1 ≤ d) (w : World) :
    Calls Try.prog 12 #[.agg #[.int .i64 n, .int .i64 s, .int .i64 q], .int .i64 t] w fun e' w' => e' = .returned (.int .i64 (n * sp / (sp + d * d) : Nat)) ∧ Below w.heap.size w w' := by
  obtain ⟨hn64, hs0, hs1, hq0, hq1⟩ := sums_nat' he
  have hn64' : n ≤ 64 := by omega
  have hspb : sp ≤ 1152921504606846976 := by omega
  have hnt : (n : Int) * t ≤ 64 * 1073741824 := Int.mul_le_mul hn64 ht1 ht0 (by omega)
  have hnt0 : 0 ≤ (n : Int) * t := Int.mul_nonneg (by omega) ht0
  have hd2 : d ≤ 68719476736 := by omega
  have hdd1 : 1 ≤ d * d := Nat.mul_le_mul hd1 hd1
  have HX1 := Lib.hid (show 0 < sp + d * d by omega)
  have HQN := Lib.hid (show ∀ k, k * (sp + d * d) ≤ n * sp → k ≤ n from fun k hk => by
    rcases Nat.lt_or_ge n k with h | h
    · have h1 : (n + 1) * (sp + d * d) ≤ k * (sp + d * d) := Nat.mul_le_mul_right _ h
      have h2 : n * sp ≤ n * (sp + d * d) := Nat.mul_le_mul_left _ (by omega)
      rw [Nat.add_mul] at h1
      omega
    · exact h)
  have HWD := Lib.hid (show ∀ w, Calls Try.prog 24 #[.int .i64 (n * t - s)] w fun e w' => e = .returned (.agg #[.int .u64 (hiN d), .int .u64 (loN d)]) ∧ Below w.heap.size w w' from fun w => by rw [hd]; exact wide_nat d (by omega) w)
  have HBD := Lib.hid (fun w => bits_any d (by omega) w)
  have HLD := Lib.hid (bits_len (x := d) (by omega))
  have HWN := Lib.hid (wide_nat n (by omega))
  have HBN := Lib.hid (fun w => bits_any n (by omega) w)
  have HLN := Lib.hid (bits_len (x := n) (by omega))
  have HWS := Lib.hid (wide_nat sp (by omega))
  have HBS := Lib.hid (fun w => bits_any sp (by omega) w)
  have HLS := Lib.hid (bits_len (x := sp) (by omega))
  have HSP := Lib.hid (show ∀ w, Calls Try.prog 26 #[.agg #[.int .i64 n, .int .i64 s, .int .i64 q]] w fun e' w' => e' = .returned (.int .i64 (sp : Int)) ∧ Below w.heap.size w w' from fun w => by
    have := rspread_ok n s q he w; rw [hsp] at this; exact this)
  have E0 := Lib.hid ((Env.start w).lay #[.int .i64 n, .int .i64 s, .int .i64 q] 24)
  have hdp : 0 < (n : Int) * t - s := by omega
  clear he hsp hd hdd1
  go_enter Try.func12, Try.ntmps12
  go_wp2_with fail
  refine (HWD.out _).mono ?_
  rintro e' a1 ⟨rfl, ha1⟩
  have F1 := Lib.hid (E0.out.below ha1)
  clear ha1
  go_wp2_with fail
  refine (HBD.out _).mono ?_
  rintro e' a2 ⟨C1, d1, m1, rfl, hm1, ho1, ha2⟩
  have F2 := Lib.hid (F1.out.below ha2)
  have R1 := Lib.hid (Reads.of_own ho1)
  have V1 := Lib.hid (show Bt.val m1 = d by rw [hm1, Bt.val_bits])
  have n1 : m1.length ≤ 128 := by rw [hm1]; exact HLD.out
  clear hm1 ho1 ha2 F1
  have x0 := F2.out.hd.cell 0
  have x1 := F2.out.hd.cell 1
  have x2 := F2.out.hd.cell 2
  have p0 := F2.out.hd.lt
  simp at x0 x1 x2 p0
  go_wp2_with fail
  refine (HSP.out _).mono ?_
  rintro e' a3 ⟨rfl, ha3⟩
  have F3 := Lib.hid (F2.out.below ha3)
  have R1a := Lib.hid (Reads.thru R1.out ha3)
  clear ha3 F2 R1 x0 x1 x2 p0
  go_wp2_with fail
  refine (HWS.out _).mono ?_
  rintro e' a4 ⟨rfl, ha4⟩
  have F4 := Lib.hid (F3.out.below ha4)
  have R1b := Lib.hid (Reads.thru R1a.out ha4)
  clear ha4 F3 R1a
  go_wp2_with fail
  refine (HBS.out _).mono ?_
  rintro e' a5 ⟨C2, d2, m2, rfl, hm2, ho2, ha5⟩
  have F5 := Lib.hid (F4.out.below ha5)
  have R1c := Lib.hid (Reads.thru R1b.out ha5)
  have R2 := Lib.hid (Reads.of_own ho2)
  have V2 := Lib.hid (show Bt.val m2 = sp by rw [hm2, Bt.val_bits])
  have n2 : m2.length ≤ 128 := by rw [hm2]; exact HLS.out
  clear hm2 ho2 ha5 F4 R1b
  go_wp2_with fail
  refine (prod_any C1 C1 m1 m1 d1 d1 _ R1c.out R1c.out (by omega) (by omega)).mono ?_
  rintro e' a6 ⟨C3, d3, m3, rfl, hm3, ho3, ha6⟩
  have F6 := Lib.hid (F5.out.below ha6)
  have R2a := Lib.hid (Reads.thru R2.out ha6)
  have R3 := Lib.hid (Reads.of_own ho3)
  have V3 := Lib.hid (show Bt.val m3 = d * d by rw [hm3.1, List.take_length, V1.out])
  have n3 : m3.length ≤ 300 := by have := hm3.2.1; omega
  clear hm3 ho3 ha6 F5 R1c R2 V1
  go_wp2_with fail
  refine (plus_any C2 C3 m2 m3 d2 d3 _ R2a.out R3.out (by omega) (by omega)).mono ?_
  rintro e' a7 ⟨C4, d4, m4, rfl, hm4, ho4, ha7⟩
  have F7 := Lib.hid (F6.out.below ha7)
  have R4 := Lib.hid (Reads.of_own ho4)
  have V4 := Lib.hid (show Bt.val m4 = sp + d * d by rw [hm4.1, V2.out, V3.out])
  have n4 : m4.length ≤ 400 := by have := hm4.2.2.1; omega
  clear hm4 ho4 ha7 F6 R2a R3 V2 V3
  go_upto_region 6 with fail
  have HS := Lib.hid (show ∀ w', Below a7.heap.size a7 w' → (Below a7.heap.size a7 w' ∧ w'.cell? ⟨w.heap.size, 0, none⟩ = some (.int .i64 n) ∧ w'.cell? ⟨w.heap.size, 1, none⟩ = some (.int .i64 s) ∧ w'.cell? ⟨w.heap.size, 2, none⟩ = some (.int .i64 q))
    from fun w' h => ⟨h, (F7.out.below h).hd.cell 0, (F7.out.below h).hd.cell 1, (F7.out.below h).hd.cell 2⟩)
  go_region_held3 (fun w' => Below a7.heap.size a7 w' ∧ w'.cell? ⟨w.heap.size, 0, none⟩ = some (.int .i64 n) ∧ w'.cell? ⟨w.heap.size, 1, none⟩ = some (.int .i64 s) ∧ w'.cell? ⟨w.heap.size, 2, none⟩ = some (.int .i64 q))
    ((refine HS.out _ ?_; repeat (first | (with_reducible exact Below.refl _ _) | (with_reducible refine Below.drew ?_) | (with_reducible refine Below.thru' ?_ hv6) | (with_reducible refine Below.thru' ?_ hv5) | (with_reducible refine Below.thru' ?_ hv4) | (with_reducible refine Below.thru' ?_ hv3) | (with_reducible refine Below.thru' ?_ hv2) | (with_reducible refine Below.thru' ?_ hv1))))
    (first
      | (go_at_call 24; (with_reducible refine (HWN.out _).mono ?_); rintro e' v1 ⟨rfl, hv1⟩)
      | (go_at_call 23; (with_reducible refine (HBN.out _).mono ?_); rintro e' v2 ⟨A2, c2, l2, rfl, hl2, ho2, hv2⟩; have HL2 := Lib.hid hl2; clear hl2)
      | (go_at_call 26; (with_reducible refine (HSP.out _).mono ?_); rintro e' v3 ⟨rfl, hv3⟩)
      | (go_at_call 24; (with_reducible refine (HWS.out _).mono ?_); rintro e' v4 ⟨rfl, hv4⟩)
      | (go_at_call 23; (with_reducible refine (HBS.out _).mono ?_); rintro e' v5 ⟨A5, c5, l5, rfl, hl5, ho5, hv5⟩; have HL5 := Lib.hid hl5; clear hl5)
      | (go_at_call 27; have hn2 : l2.length ≤ 128 := (by rw [HL2.out]; exact HLN.out); have hn5 : l5.length ≤ 128 := (by rw [HL5.out]; exact HLS.out); (with_reducible refine (prod_any A2 A5 l2 l5 c2 c5 _ (Reads.thru (Reads.of_own ho2) (by repeat (first | (with_reducible exact Below.refl _ _) | (with_reducible refine Below.drew ?_) | (with_reducible refine Below.thru' ?_ hv6) | (with_reducible refine Below.thru' ?_ hv5) | (with_reducible refine Below.thru' ?_ hv4) | (with_reducible refine Below.thru' ?_ hv3) | (with_reducible refine Below.thru' ?_ hv2) | (with_reducible refine Below.thru' ?_ hv1)))) (Reads.thru (Reads.of_own ho5) (by repeat (first | (with_reducible exact Below.refl _ _) | (with_reducible refine Below.drew ?_) | (with_reducible refine Below.thru' ?_ hv6) | (with_reducible refine Below.thru' ?_ hv5) | (with_reducible refine Below.thru' ?_ hv4) | (with_reducible refine Below.thru' ?_ hv3) | (with_reducible refine Below.thru' ?_ hv2) | (with_reducible refine Below.thru' ?_ hv1)))) (by omega) (by omega)).mono ?_); rintro e' v6 ⟨A6, c6, l6, rfl, hl6, ho6, hv6⟩; have HL6 := Lib.hid hl6; clear hl6))
  rename_i hheld
  have F8 := Lib.hid (F7.out.below hheld.1)
  have R4a := Lib.hid (Reads.thru R4.out hheld.1)
  have R6 := Lib.hid (Reads.of_own ho6)
  have V6 := Lib.hid (show Bt.val l6 = n * sp by rw [HL6.out.1, List.take_length, HL2.out, HL5.out, Bt.val_bits, Bt.val_bits])
  have n6 : l6.length ≤ 300 := by have := HL6.out.2.1; omega
  clear hheld HS hv1 hv2 hv3 hv4 hv5 hv6 ho2 ho5 ho6 HL2 HL5 HL6 hn2 hn5 F7 R4 HSP HWS HBS HLS HWN HBN HLN HWD HBD HLD

  go_wp2_with fail
  go_loopw [9] (fun kv wr => ∃ k : Nat, kv = .int .i64 (k : Int) ∧ k * (sp + d * d) ≤ n * sp ∧ Below v6.heap.size v6 wr) (fun kv _ => n + 1 - (intOf kv).toNat)
  case atStart => exact ⟨0, rfl, by simp, Below.refl _ _⟩
  case round =>
    obtain ⟨k, rfl, hk, hb⟩ := hrel
    have hkn := HQN.out k hk
    have HB := Lib.hid hb
    have HK := Lib.hid hk
    have R4b := Lib.hid (Reads.thru R4a.out hb)
    have R6b := Lib.hid (Reads.thru R6.out hb)
    have HW1 := Lib.hid (show ∀ w, Calls Try.prog 24 #[.int .i64 ((k : Int) + 1)] w fun e w' => e = .returned (.agg #[.int .u64 (hiN (k + 1)), .int .u64 (loN (k + 1))]) ∧ Below w.heap.size w w' from fun w => wide_nat (k + 1) (by omega) w)
    have HB1 := Lib.hid (fun w => bits_any (k + 1) (by omega) w)
    have HL1 := Lib.hid (bits_len (x := k + 1) (by omega))
    clear hb hk
    go_wp2_with fail
    refine (HW1.out _).mono ?_
    rintro e' b1 ⟨rfl, hb1⟩
    have G1 := Lib.hid (Below.thru' HB.out hb1)
    have R4c := Lib.hid (Reads.thru R4b.out hb1)
    have R6c := Lib.hid (Reads.thru R6b.out hb1)
    clear hb1 HB R4b R6b
    go_wp2_with fail
    refine (HB1.out _).mono ?_
    rintro e' b2 ⟨A7, c7, l7, rfl, hl7, ho7, hb2⟩
    have G2 := Lib.hid (Below.thru' G1.out hb2)
    have R4d := Lib.hid (Reads.thru R4c.out hb2)
    have R6d := Lib.hid (Reads.thru R6c.out hb2)
    have R7 := Lib.hid (Reads.of_own ho7)
    have V7 := Lib.hid (show Bt.val l7 = k + 1 by rw [hl7, Bt.val_bits])
    have n7 : l7.length ≤ 128 := by rw [hl7]; exact HL1.out
    clear hb2 hl7 ho7 G1 R4c R6c
    go_wp2_with fail
    refine (prod_any A7 C4 l7 m4 c7 d4 _ R7.out R4d.out (by omega) (by omega)).mono ?_
    rintro e' b3 ⟨A8, c8, l8, rfl, hl8, ho8, hb3⟩
    have G3 := Lib.hid (Below.thru' G2.out hb3)
    have R6e := Lib.hid (Reads.thru R6d.out hb3)
    have R8 := Lib.hid (Reads.of_own ho8)
    have V8 := Lib.hid (show Bt.val l8 = (k + 1) * (sp + d * d) by rw [hl8.1, List.take_length, V7.out, V4.out])
    have n8 : l8.length ≤ 600 := by have := hl8.2.1; omega
    clear hb3 hl8 ho8 G2 R4d R6d R7
    go_wp2_with fail
    refine (order_is A8 A6 l8 l6 c8 c6 _ ((k + 1) * (sp + d * d)) (n * sp) _ R8.out R6e.out (by omega) (by omega) V8.out V6.out).mono ?_
    rintro e' b4 ⟨rfl, rfl⟩
    by_cases hle : (k + 1) * (sp + d * d) ≤ n * sp
    · have hc0 := cmpN_le0 hle
      have HLE := Lib.hid hle
      clear hle
      generalize cmpN ((k + 1) * (sp + d * d)) (n * sp) = cc at *
      go_wp2
      go_roundw
      case rel => exact ⟨k + 1, by simp, HLE.out, G3.out⟩
      case measure => simp [intOf]; omega
    · have hc0 := cmpN_pos0 (a := (k + 1) * (sp + d * d)) (b := n * sp) (by omega)
      have HQ := Lib.hid (show n * sp / (sp + d * d) = k by
        have a1 := (Nat.le_div_iff_mul_le HX1.out).2 HK.out
        have a2 := (Nat.div_lt_iff_lt_mul HX1.out).2 (show n * sp < (k + 1) * (sp + d * d) by omega)
        omega)
      clear hle
      generalize cmpN ((k + 1) * (sp + d * d)) (n * sp) = cc at *
      go_wp2
      refine bodyPost_ret (v := .int .i64 k) (by simp [results, Try.results12, go_sem]) rfl ⟨by rw [HQ.out], Below.thru' F8.out.bel G3.out⟩
end Go.Proofs.Ytignljfeihlanaa
