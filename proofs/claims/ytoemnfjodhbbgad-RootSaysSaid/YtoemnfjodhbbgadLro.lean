/- The law RootSays, walked. -/
import Derived.Test.YtoemnfjodhbbgadRootF
import Derived.Test.YtoemnfjodhbbgadRootW
import Derived.Test.YtoemnfjodhbbgadRootH
import Derived.Test.YtoemnfjodhbbgadRootR
import Derived.Test.YtoemnfjodhbbgadRsame
import Derived.Deep.DeepCutAuto
namespace Go.Proofs.Ytoemnfjodhbbgad
open Go.RowKit
set_option linter.unusedSimpArgs false
set_option linter.unusedVariables false

theorem power_all (a : Nat) (n : Int) (ha : a < 2 ^ 128) : ∃ pn : Nat, ∃ pe : Int, (∀ w, Calls Try.prog 4 #[.agg #[.int .u64 (hiN a), .int .u64 (loN a)], .int .i64 n] w fun e w' => e = .returned (.tuple #[.agg #[.int .u64 (hiN pn), .int .u64 (loN pn)], .int .i64 pe]) ∧ Below w.heap.size w w') ∧
    ((n < 0 ∨ 127 < n) → pn = 0 ∧ pe = 1) ∧ ∀ m : Nat, n = m → m ≤ 127 → pn = fitN (a ^ m) ∧ pe = fitE (a ^ m) := by
  by_cases h : n < 0 ∨ 127 < n
  · exact ⟨0, 1, fun w => power_bad a n h w, fun _ => ⟨rfl, rfl⟩, fun m h1 h2 => by omega⟩
  · obtain ⟨m, rfl⟩ := Int.eq_ofNat_of_zero_le (show 0 ≤ n by omega)
    exact ⟨_, _, fun w => power_ok a m ha (by omega) w, fun h1 => absurd h1 h, fun m' h1 _ => by
      obtain rfl : m = m' := by omega
      exact ⟨rfl, rfl⟩⟩
theorem exists_halv (a b : Nat) (ha : a < 2 ^ 128) : ∃ k : Int, Rt.IsHalv a b k := by
  rcases Nat.eq_zero_or_pos b with h | h
  · exact ⟨-1, .inl ⟨rfl, .inl h⟩⟩
  · have key : ∀ n : Nat, (∃ k : Int, Rt.IsHalv a b k) ∨ b * 2 ^ n ≤ a := by
      intro n
      induction n with
      | zero =>
        by_cases hb : a < b
        · exact .inl ⟨-1, .inl ⟨rfl, .inr hb⟩⟩
        · exact .inr (by simp; omega)
      | succ n ih =>
        rcases ih with h1 | h1
        · exact .inl h1
        · by_cases h2 : b * 2 ^ (n + 1) ≤ a
          · exact .inr h2
          · exact .inl ⟨n, .inr ⟨n, rfl, h, h1, by omega⟩⟩
    rcases key 128 with h1 | h1
    · exact h1
    · have : 1 * 2 ^ 128 ≤ b * 2 ^ 128 := Nat.mul_le_mul_right _ h
      omega
theorem halv_all (a b : Nat) (k : Int) (ha : a < 2 ^ 128) (hb : b < 2 ^ 128) (hk : Rt.IsHalv a b k) : ∃ hv he : Int, (∀ w, Calls Try.prog 5 #[.agg #[.int .u64 (hiN a), .int .u64 (loN a)], .agg #[.int .u64 (hiN b), .int .u64 (loN b)]] w fun e w' => e = .returned (.tuple #[.int .i64 hv, .int .i64 he]) ∧ Below w.heap.size w w') ∧
    (b = 0 → hv = 0 ∧ he = 6) ∧ (0 < b → k < 0 → hv = 0 ∧ he = 4) ∧ (0 < b → ¬ k < 0 → hv = k ∧ he = 0) := by
  rcases Nat.eq_zero_or_pos b with h | h
  · subst h
    exact ⟨0, 6, fun w => halv_zero a w, fun _ => ⟨rfl, rfl⟩, fun h => absurd h (by omega), fun h => absurd h (by omega)⟩
  · by_cases h2 : k < 0
    · exact ⟨0, 4, fun w => by have := halv_ok a b k ha hb h hk w; rw [show halvR k = .tuple #[.int .i64 0, .int .i64 4] from if_pos h2] at this; exact this, fun h0 => absurd h0 (by omega), fun _ _ => ⟨rfl, rfl⟩, fun _ h3 => absurd h2 h3⟩
    · exact ⟨k, 0, fun w => by have := halv_ok a b k ha hb h hk w; rw [show halvR k = .tuple #[.int .i64 k, .int .i64 0] from if_neg h2] at this; exact this, fun h0 => absurd h0 (by omega), fun _ h3 => absurd h3 h2, fun _ _ => ⟨rfl, rfl⟩⟩
theorem root17 : Rt.IsRoot 17 4 := ⟨by decide, by decide⟩

set_option maxHeartbeats 16000000 in
set_option maxRecDepth 100000 in
theorem rootSays_walk (a b : Nat) (n : Int) (w : World) (ha : a < 2 ^ 128) (hb : b < 2 ^ 128) (n0 : -9223372036854775808 ≤ n) (n1 : n ≤ 9223372036854775807) :
    Calls Try.prog 3 #[.agg #[.int .u64 (hiN a), .int .u64 (loN a)], .agg #[.int .u64 (hiN b), .int .u64 (loN b)], .int .i64 n] w fun e w' => e = .returned (.bool true) ∧ Below w.heap.size w w' := by
  obtain ⟨r, hr⟩ := Rt.exists_root a
  obtain ⟨kk, hkk⟩ := exists_halv a b ha
  obtain ⟨pn, pe, hpow, hpb, hpg⟩ := power_all a n ha
  obtain ⟨hv, he, hhal, hh0, hh1, hh2⟩ := halv_all a b kk ha hb hkk
  have HPW := Lib.hid hpow
  have PB := Lib.hid hpb
  have PG := Lib.hid hpg
  have HHV := Lib.hid hhal
  have HH0 := Lib.hid hh0
  have HH1 := Lib.hid hh1
  have HH2 := Lib.hid hh2
  have HRT := Lib.hid (fun w => root_ok a r ha hr w)
  have HRR := Lib.hid (fun w => rroot_ok a r ha hr w)
  have HRH := Lib.hid (fun w => rhalv_ok a b kk ha hb hkk w)
  have HR17 := Lib.hid (show ∀ w, Calls Try.prog 6 #[.agg #[.int .u64 0, .int .u64 17]] w fun e w' => e = .returned (.int .u64 4) ∧ Below w.heap.size w w' from fun w => root_ok 17 4 (by omega) root17 w)
  have HBA := Lib.hid (fun w => bits_any a ha w)
  have HBL := Lib.hid (show (Bt.bits a).length ≤ 128 ∧ (a = 0 → Bt.bits a = []) ∧ (0 < a → Bt.bits a ≠ []) by
    refine ⟨by rw [Bt.len_bits]; exact Bt.blen_le ha, fun h => by rw [h]; exact Bt.bits_zero, fun h => by rw [Bt.bits_pos _ h]; simp⟩)
  have hrl := Rt.root_lt hr ha
  have HBZ := Lib.hid (show b = 0 → hiN b = 0 ∧ loN b = 0 from fun h => by rw [h]; exact ⟨rfl, rfl⟩)
  have hbc : (b = 0) ∨ (0 < b ∧ (hiN b == 0) = false) ∨ (0 < b ∧ (hiN b == 0) = true ∧ (loN b == 0) = false) := by
    rcases Nat.eq_zero_or_pos b with h | h
    · exact .inl h
    · by_cases h2 : hiN b = 0
      · have : loN b ≠ 0 := by unfold hiN at h2; unfold loN; omega
        exact .inr (.inr ⟨h, by simp [h2], by simpa using this⟩)
      · exact .inr (.inl ⟨h, by simpa using h2⟩)
  have E := Lib.hid (((Env.start w).lay #[.int .u64 (hiN a), .int .u64 (loN a)] 24).lay #[.int .u64 (hiN b), .int .u64 (loN b)] 24)
  simp only [World.size_alloc] at E
  clear hpow hpb hpg hhal hh0 hh1 hh2 ha hb hr hkk
  generalize hiN a = ah at *
  generalize loN a = al at *
  generalize hiN b = bh at *
  generalize loN b = bl at *
  go_enter Try.func3, Try.ntmps3
  go_wp2_with fail
  refine (HPW.out _).mono ?_
  rintro e' w1 ⟨rfl, hb1⟩
  have E1 := Lib.hid (E.out.below hb1)
  have E2 := Lib.hid (E1.out.lay #[.int .u64 (hiN pn), .int .u64 (loN pn)] 24)
  have p0 := E1.out.hd.lt
  have p1 := E1.out.tl.hd.lt
  have x0 := E1.out.tl.hd.cell 0
  have x1 := E1.out.tl.hd.cell 1
  have y0 := E1.out.hd.cell 0
  have y1 := E1.out.hd.cell 1
  simp at x0 x1 y0 y1
  clear hb1 E
  go_wp2_with fail
  refine (HHV.out _).mono ?_
  rintro e' w2 ⟨rfl, hb2⟩
  have E3 := Lib.hid (E2.out.below hb2)
  clear hb2 E1 E2 p0 p1 x0 x1 y0 y1 HPW HHV
  go_upto_region 3 with fail
  have HS := Lib.hid (show ∀ w', Below w2.heap.size w2 w' → (Below w2.heap.size w2 w' ∧ w'.cell? ⟨w.heap.size, 0, none⟩ = some (.int .u64 ah) ∧ w'.cell? ⟨w.heap.size, 1, none⟩ = some (.int .u64 al))
    from fun w' h => ⟨h, (E3.out.below h).tl.tl.hd.cell 0, (E3.out.below h).tl.tl.hd.cell 1⟩)
  have tok1 : True := trivial
  go_cut [34] (fun s34 wx => s34 = .bool false ∧ Below w2.heap.size w2 wx)
  case first =>
    go_region_held3 (fun w' => Below w2.heap.size w2 w' ∧ w'.cell? ⟨w.heap.size, 0, none⟩ = some (.int .u64 ah) ∧ w'.cell? ⟨w.heap.size, 1, none⟩ = some (.int .u64 al))
      ((refine HS.out _ ?_; repeat (first | (with_reducible exact hL5) | (with_reducible exact hL4) | (with_reducible exact hL3) | (with_reducible exact Below.refl _ _) | (with_reducible refine Below.drew ?_))))
      (first
        | (go_at_call 6; have _t := tok1; (with_reducible refine (HRT.out _).mono ?_); rintro e' w3 ⟨rfl, hb3⟩; have hL3 : Below w2.heap.size w2 w3 := Below.thru' (by repeat (first | (with_reducible exact hL4) | (with_reducible exact Below.refl _ _) | (with_reducible refine Below.drew ?_))) hb3; clear tok1 _t)
        | (go_at_call 7; (with_reducible refine (HRR.out _).mono ?_); rintro e' w4 ⟨rfl, hb4⟩; have hL4 : Below w2.heap.size w2 w4 := Below.thru' (by repeat (first | (with_reducible exact hL3) | (with_reducible exact Below.refl _ _) | (with_reducible refine Below.drew ?_))) hb4)
        | (go_at_call 6; (with_reducible refine (HR17.out _).mono ?_); rintro e' w5 ⟨rfl, hb5⟩; have hL5 : Below w2.heap.size w2 w5 := Below.thru' (by repeat (first | (with_reducible exact hL4) | (with_reducible exact hL3) | (with_reducible refine Below.drew ?_))) hb5))
    all_goals
      rename_i hheld
      have hbel := hheld.1
      clear hheld HS
      go_wp2_with fail
      go_meet
      exact ⟨rfl, hbel⟩
  case rest =>
    obtain ⟨rfl, hbel⟩ := hcut
    have E4 := Lib.hid (E3.out.below hbel)
    clear hbel HS E3 tok1
    have x0 := E4.out.tl.tl.hd.cell 0
    have x1 := E4.out.tl.tl.hd.cell 1
    have y0 := E4.out.tl.hd.cell 0
    have y1 := E4.out.tl.hd.cell 1
    simp at x0 x1 y0 y1
    go_wp2_with fail
    refine (HRH.out _).mono ?_
    rintro e' w6 ⟨rfl, hb6⟩
    have E5 := Lib.hid (E4.out.below hb6)
    clear hb6 E4 x0 x1 y0 y1 HRT HRR HR17 HRH
    have y0 := E5.out.tl.hd.cell 0
    have y1 := E5.out.tl.hd.cell 1
    have z0 := E5.out.hd.cell 0
    have z1 := E5.out.hd.cell 1
    simp at y0 y1 z0 z1
    rcases hbc with hb | ⟨hb, hc⟩ | ⟨hb, hc, hd⟩
    · obtain ⟨rfl, rfl⟩ := HH0.out hb
      obtain ⟨g1, g2⟩ := HBZ.out hb
      rw [g1] at y0
      rw [g2] at y1
      clear hb g1 g2
      rcases Int.lt_or_le n 0 with hn | hn
      · obtain ⟨rfl, rfl⟩ := PB.out (.inl hn)
        rw [show hiN 0 = 0 from rfl] at z0
        rw [show loN 0 = 0 from rfl] at z1
        go_wp2
        go_ret
        exact ⟨rfl, E5.out.bel⟩
      · rcases Int.lt_or_le 127 n with hn2 | hn2
        · obtain ⟨rfl, rfl⟩ := PB.out (.inr hn2)
          rw [show hiN 0 = 0 from rfl] at z0
          rw [show loN 0 = 0 from rfl] at z1
          have hn3 : ¬ n < 0 := by omega
          go_wp2
          go_ret
          exact ⟨rfl, E5.out.bel⟩
        · obtain ⟨m, rfl⟩ := Int.eq_ofNat_of_zero_le hn
          obtain ⟨g1, g2⟩ := PG.out m rfl (by omega)
          have PN := Lib.hid g1
          have PE := Lib.hid g2
          clear g1 g2
          have hm : m ≤ 127 := by omega
          have E6 := Lib.hid (E5.out.lay #[.bool true] 4)
          have R6 := Lib.hid (show Reads (w6.alloc (.cells #[.bool true] 4)) (w6.alloc (.cells #[.bool true] 4)).heap.size 1 (some ⟨w6.heap.size, 0, none⟩) 1 ([true].map Value.bool) from ⟨rfl, fun _ => ⟨_, rfl, by simp, fun j u hu => by
            match j, hu with
            | 0, hu => simp at hu; subst hu; exact (Blk.new w6 _ _).cell 0⟩⟩)
          clear E5
          go_wp2_with fail
          clear y0 y1 z0 z1
          go_loopw [12, 80] (fun lv iv wr => ∃ (i c : Nat) (A : Option Addr) (l : List Bool), i ≤ m ∧ iv = .int .i64 (i : Int) ∧ lv = .slice A l.length c ∧ Bt.val l = a ^ i ∧ l.length ≤ 200 ∧ (a = 0 → l.length ≤ 1) ∧ (0 < a → Bt.Norm l) ∧ Reads wr wr.heap.size 1 A l.length (l.map Value.bool) ∧
            Env w wr [(w1.heap.size, 24, #[.int .u64 (hiN pn), .int .u64 (loN pn)]), (w.heap.size, 24, #[.int .u64 ah, .int .u64 al])]) (fun _ iv _ => m - (intOf iv).toNat)
          case atStart => exact ⟨0, 1, _, [true], by omega, rfl, rfl, by simp, by simp, fun _ => by simp, fun _ => Bt.norm_snoc [], R6.out, E6.out.drop fun x hx => by simp at hx ⊢; rcases hx with h | h <;> simp [h]⟩
          case round =>
            obtain ⟨i, c, A, l, hi, rfl, rfl, hv, hl2, hz, hnm, hrd, hE⟩ := hrel
            have F := Lib.hid hE
            have RL := Lib.hid hrd
            have HV := Lib.hid hv
            have HZ := Lib.hid hz
            have HNM := Lib.hid hnm
            clear hE hrd hv hz hnm E6 R6
            by_cases hlt : i < m
            · have x0 := F.out.tl.hd.cell 0
              have x1 := F.out.tl.hd.cell 1
              simp at x0 x1
              go_wp2_with fail
              refine (HBA.out _).mono ?_
              rintro e' w7 ⟨A2, c2, l2, rfl, hb2, ho2, hb7⟩
              have F2 := Lib.hid (F.out.below hb7)
              have RL2 := Lib.hid (RL.out.thru hb7)
              have R2 := Lib.hid (Reads.of_own ho2)
              have B2 := Lib.hid hb2
              have hn2' : l2.length ≤ 128 := by rw [hb2]; exact HBL.out.1
              clear hb2 ho2 hb7 F RL x0 x1
              go_wp2_with fail
              refine (prod_any A A2 l l2 c c2 _ RL2.out R2.out (by omega) (by omega)).mono ?_
              rintro e' w8 ⟨A3, c3, l3, rfl, hl3, ho3, hb8⟩
              have F3 := Lib.hid (F2.out.below hb8)
              have R3 := Lib.hid (Reads.of_own ho3)
              have V3 := Lib.hid (show Bt.val l3 = a ^ (i + 1) by rw [hl3.1, List.take_length, HV.out, B2.out, Bt.val_bits, Nat.pow_succ])
              have N3 := Lib.hid (show 0 < a → Bt.Norm l3 from fun h => hl3.2.2 (by rw [B2.out]; exact Bt.norm_bits a) (by rw [B2.out]; exact HBL.out.2.2 h))
              have Z3 := Lib.hid (show a = 0 → l3.length ≤ 1 from fun h => by
                have h1 := hl3.2.1
                rw [B2.out, HBL.out.2.1 h] at h1
                have := HZ.out h
                simp at h1
                omega)
              have hl3b : l3.length ≤ 400 := by have := hl3.2.1; omega
              clear hl3 ho3 hb8 F2 RL2 R2
              by_cases h200 : l3.length ≤ 200
              · go_wp2_with fail
                go_roundw
                case rel => exact ⟨i + 1, c3, A3, l3, hlt, by simp, rfl, V3.out, h200, Z3.out, N3.out, R3.out, F3.out⟩
                case measure => simp [intOf]; omega
              · have hap : 0 < a := by
                  rcases Nat.eq_zero_or_pos a with h | h
                  · have := Z3.out h; omega
                  · exact h
                have HBIG := Lib.hid (show fitN (a ^ (i + 1)) = pn ∧ fitE (a ^ (i + 1)) = pe by
                  have h1 := Bt.norm_len_gt (N3.out hap) (k := 200) (by omega)
                  rw [V3.out] at h1
                  have h2 : 2 ^ 128 ≤ 2 ^ 200 := Nat.pow_le_pow_right (by omega) (by omega)
                  have h3 := Rt.pow_big (a := a) (i := i + 1) (n := m) (by omega) hlt
                  rw [PN.out, PE.out]
                  exact ⟨by rw [show fitN (a ^ (i + 1)) = 0 from if_neg (by omega), show fitN (a ^ m) = 0 from if_neg (by omega)], by rw [show fitE (a ^ (i + 1)) = 2 from if_neg (by omega), show fitE (a ^ m) = 2 from if_neg (by omega)]⟩)
                have z0 := F3.out.hd.cell 0
                have z1 := F3.out.hd.cell 1
                simp at z0 z1
                have h201 : 200 < l3.length := by omega
                clear h200
                go_wp2_with fail
                refine (same_told A3 l3 c3 (a ^ (i + 1)) pn pe V3.out HBIG.out.1 HBIG.out.2 _ R3.out (by omega)).mono ?_
                rintro e' w9 ⟨rfl, hb9⟩
                go_wp2
                go_ret
                exact ⟨rfl, (F3.out.below hb9).bel⟩
            · have him : i = m := by omega
              subst him
              have z0 := F.out.hd.cell 0
              have z1 := F.out.hd.cell 1
              simp at z0 z1
              go_wp2_with fail
              refine (same_told A l c (a ^ i) pn pe HV.out PN.out.symm PE.out.symm _ RL.out (by omega)).mono ?_
              rintro e' w9 ⟨rfl, hb9⟩
              go_wp2
              go_ret
              exact ⟨rfl, (F.out.below hb9).bel⟩
    · by_cases hk : kk < 0
      · obtain ⟨rfl, rfl⟩ := HH1.out hb (by omega)
        rcases Int.lt_or_le n 0 with hn | hn
        · obtain ⟨rfl, rfl⟩ := PB.out (.inl hn)
          rw [show hiN 0 = 0 from rfl] at z0
          rw [show loN 0 = 0 from rfl] at z1
          go_wp2
          go_ret
          exact ⟨rfl, E5.out.bel⟩
        · rcases Int.lt_or_le 127 n with hn2 | hn2
          · obtain ⟨rfl, rfl⟩ := PB.out (.inr hn2)
            rw [show hiN 0 = 0 from rfl] at z0
            rw [show loN 0 = 0 from rfl] at z1
            have hn3 : ¬ n < 0 := by omega
            go_wp2
            go_ret
            exact ⟨rfl, E5.out.bel⟩
          · obtain ⟨m, rfl⟩ := Int.eq_ofNat_of_zero_le hn
            obtain ⟨g1, g2⟩ := PG.out m rfl (by omega)
            have PN := Lib.hid g1
            have PE := Lib.hid g2
            clear g1 g2
            have hm : m ≤ 127 := by omega
            have E6 := Lib.hid (E5.out.lay #[.bool true] 4)
            have R6 := Lib.hid (show Reads (w6.alloc (.cells #[.bool true] 4)) (w6.alloc (.cells #[.bool true] 4)).heap.size 1 (some ⟨w6.heap.size, 0, none⟩) 1 ([true].map Value.bool) from ⟨rfl, fun _ => ⟨_, rfl, by simp, fun j u hu => by
              match j, hu with
              | 0, hu => simp at hu; subst hu; exact (Blk.new w6 _ _).cell 0⟩⟩)
            clear E5
            go_wp2_with fail
            clear y0 y1 z0 z1
            go_loopw [12, 80] (fun lv iv wr => ∃ (i c : Nat) (A : Option Addr) (l : List Bool), i ≤ m ∧ iv = .int .i64 (i : Int) ∧ lv = .slice A l.length c ∧ Bt.val l = a ^ i ∧ l.length ≤ 200 ∧ (a = 0 → l.length ≤ 1) ∧ (0 < a → Bt.Norm l) ∧ Reads wr wr.heap.size 1 A l.length (l.map Value.bool) ∧
              Env w wr [(w1.heap.size, 24, #[.int .u64 (hiN pn), .int .u64 (loN pn)]), (w.heap.size, 24, #[.int .u64 ah, .int .u64 al])]) (fun _ iv _ => m - (intOf iv).toNat)
            case atStart => exact ⟨0, 1, _, [true], by omega, rfl, rfl, by simp, by simp, fun _ => by simp, fun _ => Bt.norm_snoc [], R6.out, E6.out.drop fun x hx => by simp at hx ⊢; rcases hx with h | h <;> simp [h]⟩
            case round =>
              obtain ⟨i, c, A, l, hi, rfl, rfl, hv, hl2, hz, hnm, hrd, hE⟩ := hrel
              have F := Lib.hid hE
              have RL := Lib.hid hrd
              have HV := Lib.hid hv
              have HZ := Lib.hid hz
              have HNM := Lib.hid hnm
              clear hE hrd hv hz hnm E6 R6
              by_cases hlt : i < m
              · have x0 := F.out.tl.hd.cell 0
                have x1 := F.out.tl.hd.cell 1
                simp at x0 x1
                go_wp2_with fail
                refine (HBA.out _).mono ?_
                rintro e' w7 ⟨A2, c2, l2, rfl, hb2, ho2, hb7⟩
                have F2 := Lib.hid (F.out.below hb7)
                have RL2 := Lib.hid (RL.out.thru hb7)
                have R2 := Lib.hid (Reads.of_own ho2)
                have B2 := Lib.hid hb2
                have hn2' : l2.length ≤ 128 := by rw [hb2]; exact HBL.out.1
                clear hb2 ho2 hb7 F RL x0 x1
                go_wp2_with fail
                refine (prod_any A A2 l l2 c c2 _ RL2.out R2.out (by omega) (by omega)).mono ?_
                rintro e' w8 ⟨A3, c3, l3, rfl, hl3, ho3, hb8⟩
                have F3 := Lib.hid (F2.out.below hb8)
                have R3 := Lib.hid (Reads.of_own ho3)
                have V3 := Lib.hid (show Bt.val l3 = a ^ (i + 1) by rw [hl3.1, List.take_length, HV.out, B2.out, Bt.val_bits, Nat.pow_succ])
                have N3 := Lib.hid (show 0 < a → Bt.Norm l3 from fun h => hl3.2.2 (by rw [B2.out]; exact Bt.norm_bits a) (by rw [B2.out]; exact HBL.out.2.2 h))
                have Z3 := Lib.hid (show a = 0 → l3.length ≤ 1 from fun h => by
                  have h1 := hl3.2.1
                  rw [B2.out, HBL.out.2.1 h] at h1
                  have := HZ.out h
                  simp at h1
                  omega)
                have hl3b : l3.length ≤ 400 := by have := hl3.2.1; omega
                clear hl3 ho3 hb8 F2 RL2 R2
                by_cases h200 : l3.length ≤ 200
                · go_wp2_with fail
                  go_roundw
                  case rel => exact ⟨i + 1, c3, A3, l3, hlt, by simp, rfl, V3.out, h200, Z3.out, N3.out, R3.out, F3.out⟩
                  case measure => simp [intOf]; omega
                · have hap : 0 < a := by
                    rcases Nat.eq_zero_or_pos a with h | h
                    · have := Z3.out h; omega
                    · exact h
                  have HBIG := Lib.hid (show fitN (a ^ (i + 1)) = pn ∧ fitE (a ^ (i + 1)) = pe by
                    have h1 := Bt.norm_len_gt (N3.out hap) (k := 200) (by omega)
                    rw [V3.out] at h1
                    have h2 : 2 ^ 128 ≤ 2 ^ 200 := Nat.pow_le_pow_right (by omega) (by omega)
                    have h3 := Rt.pow_big (a := a) (i := i + 1) (n := m) (by omega) hlt
                    rw [PN.out, PE.out]
                    exact ⟨by rw [show fitN (a ^ (i + 1)) = 0 from if_neg (by omega), show fitN (a ^ m) = 0 from if_neg (by omega)], by rw [show fitE (a ^ (i + 1)) = 2 from if_neg (by omega), show fitE (a ^ m) = 2 from if_neg (by omega)]⟩)
                  have z0 := F3.out.hd.cell 0
                  have z1 := F3.out.hd.cell 1
                  simp at z0 z1
                  have h201 : 200 < l3.length := by omega
                  clear h200
                  go_wp2_with fail
                  refine (same_told A3 l3 c3 (a ^ (i + 1)) pn pe V3.out HBIG.out.1 HBIG.out.2 _ R3.out (by omega)).mono ?_
                  rintro e' w9 ⟨rfl, hb9⟩
                  go_wp2
                  go_ret
                  exact ⟨rfl, (F3.out.below hb9).bel⟩
              · have him : i = m := by omega
                subst him
                have z0 := F.out.hd.cell 0
                have z1 := F.out.hd.cell 1
                simp at z0 z1
                go_wp2_with fail
                refine (same_told A l c (a ^ i) pn pe HV.out PN.out.symm PE.out.symm _ RL.out (by omega)).mono ?_
                rintro e' w9 ⟨rfl, hb9⟩
                go_wp2
                go_ret
                exact ⟨rfl, (F.out.below hb9).bel⟩
      · obtain ⟨rfl, rfl⟩ := HH2.out hb (by omega)
        rcases Int.lt_or_le n 0 with hn | hn
        · obtain ⟨rfl, rfl⟩ := PB.out (.inl hn)
          rw [show hiN 0 = 0 from rfl] at z0
          rw [show loN 0 = 0 from rfl] at z1
          go_wp2
          go_ret
          exact ⟨rfl, E5.out.bel⟩
        · rcases Int.lt_or_le 127 n with hn2 | hn2
          · obtain ⟨rfl, rfl⟩ := PB.out (.inr hn2)
            rw [show hiN 0 = 0 from rfl] at z0
            rw [show loN 0 = 0 from rfl] at z1
            have hn3 : ¬ n < 0 := by omega
            go_wp2
            go_ret
            exact ⟨rfl, E5.out.bel⟩
          · obtain ⟨m, rfl⟩ := Int.eq_ofNat_of_zero_le hn
            obtain ⟨g1, g2⟩ := PG.out m rfl (by omega)
            have PN := Lib.hid g1
            have PE := Lib.hid g2
            clear g1 g2
            have hm : m ≤ 127 := by omega
            have E6 := Lib.hid (E5.out.lay #[.bool true] 4)
            have R6 := Lib.hid (show Reads (w6.alloc (.cells #[.bool true] 4)) (w6.alloc (.cells #[.bool true] 4)).heap.size 1 (some ⟨w6.heap.size, 0, none⟩) 1 ([true].map Value.bool) from ⟨rfl, fun _ => ⟨_, rfl, by simp, fun j u hu => by
              match j, hu with
              | 0, hu => simp at hu; subst hu; exact (Blk.new w6 _ _).cell 0⟩⟩)
            clear E5
            go_wp2_with fail
            clear y0 y1 z0 z1
            go_loopw [12, 80] (fun lv iv wr => ∃ (i c : Nat) (A : Option Addr) (l : List Bool), i ≤ m ∧ iv = .int .i64 (i : Int) ∧ lv = .slice A l.length c ∧ Bt.val l = a ^ i ∧ l.length ≤ 200 ∧ (a = 0 → l.length ≤ 1) ∧ (0 < a → Bt.Norm l) ∧ Reads wr wr.heap.size 1 A l.length (l.map Value.bool) ∧
              Env w wr [(w1.heap.size, 24, #[.int .u64 (hiN pn), .int .u64 (loN pn)]), (w.heap.size, 24, #[.int .u64 ah, .int .u64 al])]) (fun _ iv _ => m - (intOf iv).toNat)
            case atStart => exact ⟨0, 1, _, [true], by omega, rfl, rfl, by simp, by simp, fun _ => by simp, fun _ => Bt.norm_snoc [], R6.out, E6.out.drop fun x hx => by simp at hx ⊢; rcases hx with h | h <;> simp [h]⟩
            case round =>
              obtain ⟨i, c, A, l, hi, rfl, rfl, hv, hl2, hz, hnm, hrd, hE⟩ := hrel
              have F := Lib.hid hE
              have RL := Lib.hid hrd
              have HV := Lib.hid hv
              have HZ := Lib.hid hz
              have HNM := Lib.hid hnm
              clear hE hrd hv hz hnm E6 R6
              by_cases hlt : i < m
              · have x0 := F.out.tl.hd.cell 0
                have x1 := F.out.tl.hd.cell 1
                simp at x0 x1
                go_wp2_with fail
                refine (HBA.out _).mono ?_
                rintro e' w7 ⟨A2, c2, l2, rfl, hb2, ho2, hb7⟩
                have F2 := Lib.hid (F.out.below hb7)
                have RL2 := Lib.hid (RL.out.thru hb7)
                have R2 := Lib.hid (Reads.of_own ho2)
                have B2 := Lib.hid hb2
                have hn2' : l2.length ≤ 128 := by rw [hb2]; exact HBL.out.1
                clear hb2 ho2 hb7 F RL x0 x1
                go_wp2_with fail
                refine (prod_any A A2 l l2 c c2 _ RL2.out R2.out (by omega) (by omega)).mono ?_
                rintro e' w8 ⟨A3, c3, l3, rfl, hl3, ho3, hb8⟩
                have F3 := Lib.hid (F2.out.below hb8)
                have R3 := Lib.hid (Reads.of_own ho3)
                have V3 := Lib.hid (show Bt.val l3 = a ^ (i + 1) by rw [hl3.1, List.take_length, HV.out, B2.out, Bt.val_bits, Nat.pow_succ])
                have N3 := Lib.hid (show 0 < a → Bt.Norm l3 from fun h => hl3.2.2 (by rw [B2.out]; exact Bt.norm_bits a) (by rw [B2.out]; exact HBL.out.2.2 h))
                have Z3 := Lib.hid (show a = 0 → l3.length ≤ 1 from fun h => by
                  have h1 := hl3.2.1
                  rw [B2.out, HBL.out.2.1 h] at h1
                  have := HZ.out h
                  simp at h1
                  omega)
                have hl3b : l3.length ≤ 400 := by have := hl3.2.1; omega
                clear hl3 ho3 hb8 F2 RL2 R2
                by_cases h200 : l3.length ≤ 200
                · go_wp2_with fail
                  go_roundw
                  case rel => exact ⟨i + 1, c3, A3, l3, hlt, by simp, rfl, V3.out, h200, Z3.out, N3.out, R3.out, F3.out⟩
                  case measure => simp [intOf]; omega
                · have hap : 0 < a := by
                    rcases Nat.eq_zero_or_pos a with h | h
                    · have := Z3.out h; omega
                    · exact h
                  have HBIG := Lib.hid (show fitN (a ^ (i + 1)) = pn ∧ fitE (a ^ (i + 1)) = pe by
                    have h1 := Bt.norm_len_gt (N3.out hap) (k := 200) (by omega)
                    rw [V3.out] at h1
                    have h2 : 2 ^ 128 ≤ 2 ^ 200 := Nat.pow_le_pow_right (by omega) (by omega)
                    have h3 := Rt.pow_big (a := a) (i := i + 1) (n := m) (by omega) hlt
                    rw [PN.out, PE.out]
                    exact ⟨by rw [show fitN (a ^ (i + 1)) = 0 from if_neg (by omega), show fitN (a ^ m) = 0 from if_neg (by omega)], by rw [show fitE (a ^ (i + 1)) = 2 from if_neg (by omega), show fitE (a ^ m) = 2 from if_neg (by omega)]⟩)
                  have z0 := F3.out.hd.cell 0
                  have z1 := F3.out.hd.cell 1
                  simp at z0 z1
                  have h201 : 200 < l3.length := by omega
                  clear h200
                  go_wp2_with fail
                  refine (same_told A3 l3 c3 (a ^ (i + 1)) pn pe V3.out HBIG.out.1 HBIG.out.2 _ R3.out (by omega)).mono ?_
                  rintro e' w9 ⟨rfl, hb9⟩
                  go_wp2
                  go_ret
                  exact ⟨rfl, (F3.out.below hb9).bel⟩
              · have him : i = m := by omega
                subst him
                have z0 := F.out.hd.cell 0
                have z1 := F.out.hd.cell 1
                simp at z0 z1
                go_wp2_with fail
                refine (same_told A l c (a ^ i) pn pe HV.out PN.out.symm PE.out.symm _ RL.out (by omega)).mono ?_
                rintro e' w9 ⟨rfl, hb9⟩
                go_wp2
                go_ret
                exact ⟨rfl, (F.out.below hb9).bel⟩
    · by_cases hk : kk < 0
      · obtain ⟨rfl, rfl⟩ := HH1.out hb (by omega)
        rcases Int.lt_or_le n 0 with hn | hn
        · obtain ⟨rfl, rfl⟩ := PB.out (.inl hn)
          rw [show hiN 0 = 0 from rfl] at z0
          rw [show loN 0 = 0 from rfl] at z1
          go_wp2
          go_ret
          exact ⟨rfl, E5.out.bel⟩
        · rcases Int.lt_or_le 127 n with hn2 | hn2
          · obtain ⟨rfl, rfl⟩ := PB.out (.inr hn2)
            rw [show hiN 0 = 0 from rfl] at z0
            rw [show loN 0 = 0 from rfl] at z1
            have hn3 : ¬ n < 0 := by omega
            go_wp2
            go_ret
            exact ⟨rfl, E5.out.bel⟩
          · obtain ⟨m, rfl⟩ := Int.eq_ofNat_of_zero_le hn
            obtain ⟨g1, g2⟩ := PG.out m rfl (by omega)
            have PN := Lib.hid g1
            have PE := Lib.hid g2
            clear g1 g2
            have hm : m ≤ 127 := by omega
            have E6 := Lib.hid (E5.out.lay #[.bool true] 4)
            have R6 := Lib.hid (show Reads (w6.alloc (.cells #[.bool true] 4)) (w6.alloc (.cells #[.bool true] 4)).heap.size 1 (some ⟨w6.heap.size, 0, none⟩) 1 ([true].map Value.bool) from ⟨rfl, fun _ => ⟨_, rfl, by simp, fun j u hu => by
              match j, hu with
              | 0, hu => simp at hu; subst hu; exact (Blk.new w6 _ _).cell 0⟩⟩)
            clear E5
            go_wp2_with fail
            clear y0 y1 z0 z1
            go_loopw [12, 80] (fun lv iv wr => ∃ (i c : Nat) (A : Option Addr) (l : List Bool), i ≤ m ∧ iv = .int .i64 (i : Int) ∧ lv = .slice A l.length c ∧ Bt.val l = a ^ i ∧ l.length ≤ 200 ∧ (a = 0 → l.length ≤ 1) ∧ (0 < a → Bt.Norm l) ∧ Reads wr wr.heap.size 1 A l.length (l.map Value.bool) ∧
              Env w wr [(w1.heap.size, 24, #[.int .u64 (hiN pn), .int .u64 (loN pn)]), (w.heap.size, 24, #[.int .u64 ah, .int .u64 al])]) (fun _ iv _ => m - (intOf iv).toNat)
            case atStart => exact ⟨0, 1, _, [true], by omega, rfl, rfl, by simp, by simp, fun _ => by simp, fun _ => Bt.norm_snoc [], R6.out, E6.out.drop fun x hx => by simp at hx ⊢; rcases hx with h | h <;> simp [h]⟩
            case round =>
              obtain ⟨i, c, A, l, hi, rfl, rfl, hv, hl2, hz, hnm, hrd, hE⟩ := hrel
              have F := Lib.hid hE
              have RL := Lib.hid hrd
              have HV := Lib.hid hv
              have HZ := Lib.hid hz
              have HNM := Lib.hid hnm
              clear hE hrd hv hz hnm E6 R6
              by_cases hlt : i < m
              · have x0 := F.out.tl.hd.cell 0
                have x1 := F.out.tl.hd.cell 1
                simp at x0 x1
                go_wp2_with fail
                refine (HBA.out _).mono ?_
                rintro e' w7 ⟨A2, c2, l2, rfl, hb2, ho2, hb7⟩
                have F2 := Lib.hid (F.out.below hb7)
                have RL2 := Lib.hid (RL.out.thru hb7)
                have R2 := Lib.hid (Reads.of_own ho2)
                have B2 := Lib.hid hb2
                have hn2' : l2.length ≤ 128 := by rw [hb2]; exact HBL.out.1
                clear hb2 ho2 hb7 F RL x0 x1
                go_wp2_with fail
                refine (prod_any A A2 l l2 c c2 _ RL2.out R2.out (by omega) (by omega)).mono ?_
                rintro e' w8 ⟨A3, c3, l3, rfl, hl3, ho3, hb8⟩
                have F3 := Lib.hid (F2.out.below hb8)
                have R3 := Lib.hid (Reads.of_own ho3)
                have V3 := Lib.hid (show Bt.val l3 = a ^ (i + 1) by rw [hl3.1, List.take_length, HV.out, B2.out, Bt.val_bits, Nat.pow_succ])
                have N3 := Lib.hid (show 0 < a → Bt.Norm l3 from fun h => hl3.2.2 (by rw [B2.out]; exact Bt.norm_bits a) (by rw [B2.out]; exact HBL.out.2.2 h))
                have Z3 := Lib.hid (show a = 0 → l3.length ≤ 1 from fun h => by
                  have h1 := hl3.2.1
                  rw [B2.out, HBL.out.2.1 h] at h1
                  have := HZ.out h
                  simp at h1
                  omega)
                have hl3b : l3.length ≤ 400 := by have := hl3.2.1; omega
                clear hl3 ho3 hb8 F2 RL2 R2
                by_cases h200 : l3.length ≤ 200
                · go_wp2_with fail
                  go_roundw
                  case rel => exact ⟨i + 1, c3, A3, l3, hlt, by simp, rfl, V3.out, h200, Z3.out, N3.out, R3.out, F3.out⟩
                  case measure => simp [intOf]; omega
                · have hap : 0 < a := by
                    rcases Nat.eq_zero_or_pos a with h | h
                    · have := Z3.out h; omega
                    · exact h
                  have HBIG := Lib.hid (show fitN (a ^ (i + 1)) = pn ∧ fitE (a ^ (i + 1)) = pe by
                    have h1 := Bt.norm_len_gt (N3.out hap) (k := 200) (by omega)
                    rw [V3.out] at h1
                    have h2 : 2 ^ 128 ≤ 2 ^ 200 := Nat.pow_le_pow_right (by omega) (by omega)
                    have h3 := Rt.pow_big (a := a) (i := i + 1) (n := m) (by omega) hlt
                    rw [PN.out, PE.out]
                    exact ⟨by rw [show fitN (a ^ (i + 1)) = 0 from if_neg (by omega), show fitN (a ^ m) = 0 from if_neg (by omega)], by rw [show fitE (a ^ (i + 1)) = 2 from if_neg (by omega), show fitE (a ^ m) = 2 from if_neg (by omega)]⟩)
                  have z0 := F3.out.hd.cell 0
                  have z1 := F3.out.hd.cell 1
                  simp at z0 z1
                  have h201 : 200 < l3.length := by omega
                  clear h200
                  go_wp2_with fail
                  refine (same_told A3 l3 c3 (a ^ (i + 1)) pn pe V3.out HBIG.out.1 HBIG.out.2 _ R3.out (by omega)).mono ?_
                  rintro e' w9 ⟨rfl, hb9⟩
                  go_wp2
                  go_ret
                  exact ⟨rfl, (F3.out.below hb9).bel⟩
              · have him : i = m := by omega
                subst him
                have z0 := F.out.hd.cell 0
                have z1 := F.out.hd.cell 1
                simp at z0 z1
                go_wp2_with fail
                refine (same_told A l c (a ^ i) pn pe HV.out PN.out.symm PE.out.symm _ RL.out (by omega)).mono ?_
                rintro e' w9 ⟨rfl, hb9⟩
                go_wp2
                go_ret
                exact ⟨rfl, (F.out.below hb9).bel⟩
      · obtain ⟨rfl, rfl⟩ := HH2.out hb (by omega)
        rcases Int.lt_or_le n 0 with hn | hn
        · obtain ⟨rfl, rfl⟩ := PB.out (.inl hn)
          rw [show hiN 0 = 0 from rfl] at z0
          rw [show loN 0 = 0 from rfl] at z1
          go_wp2
          go_ret
          exact ⟨rfl, E5.out.bel⟩
        · rcases Int.lt_or_le 127 n with hn2 | hn2
          · obtain ⟨rfl, rfl⟩ := PB.out (.inr hn2)
            rw [show hiN 0 = 0 from rfl] at z0
            rw [show loN 0 = 0 from rfl] at z1
            have hn3 : ¬ n < 0 := by omega
            go_wp2
            go_ret
            exact ⟨rfl, E5.out.bel⟩
          · obtain ⟨m, rfl⟩ := Int.eq_ofNat_of_zero_le hn
            obtain ⟨g1, g2⟩ := PG.out m rfl (by omega)
            have PN := Lib.hid g1
            have PE := Lib.hid g2
            clear g1 g2
            have hm : m ≤ 127 := by omega
            have E6 := Lib.hid (E5.out.lay #[.bool true] 4)
            have R6 := Lib.hid (show Reads (w6.alloc (.cells #[.bool true] 4)) (w6.alloc (.cells #[.bool true] 4)).heap.size 1 (some ⟨w6.heap.size, 0, none⟩) 1 ([true].map Value.bool) from ⟨rfl, fun _ => ⟨_, rfl, by simp, fun j u hu => by
              match j, hu with
              | 0, hu => simp at hu; subst hu; exact (Blk.new w6 _ _).cell 0⟩⟩)
            clear E5
            go_wp2_with fail
            clear y0 y1 z0 z1
            go_loopw [12, 80] (fun lv iv wr => ∃ (i c : Nat) (A : Option Addr) (l : List Bool), i ≤ m ∧ iv = .int .i64 (i : Int) ∧ lv = .slice A l.length c ∧ Bt.val l = a ^ i ∧ l.length ≤ 200 ∧ (a = 0 → l.length ≤ 1) ∧ (0 < a → Bt.Norm l) ∧ Reads wr wr.heap.size 1 A l.length (l.map Value.bool) ∧
              Env w wr [(w1.heap.size, 24, #[.int .u64 (hiN pn), .int .u64 (loN pn)]), (w.heap.size, 24, #[.int .u64 ah, .int .u64 al])]) (fun _ iv _ => m - (intOf iv).toNat)
            case atStart => exact ⟨0, 1, _, [true], by omega, rfl, rfl, by simp, by simp, fun _ => by simp, fun _ => Bt.norm_snoc [], R6.out, E6.out.drop fun x hx => by simp at hx ⊢; rcases hx with h | h <;> simp [h]⟩
            case round =>
              obtain ⟨i, c, A, l, hi, rfl, rfl, hv, hl2, hz, hnm, hrd, hE⟩ := hrel
              have F := Lib.hid hE
              have RL := Lib.hid hrd
              have HV := Lib.hid hv
              have HZ := Lib.hid hz
              have HNM := Lib.hid hnm
              clear hE hrd hv hz hnm E6 R6
              by_cases hlt : i < m
              · have x0 := F.out.tl.hd.cell 0
                have x1 := F.out.tl.hd.cell 1
                simp at x0 x1
                go_wp2_with fail
                refine (HBA.out _).mono ?_
                rintro e' w7 ⟨A2, c2, l2, rfl, hb2, ho2, hb7⟩
                have F2 := Lib.hid (F.out.below hb7)
                have RL2 := Lib.hid (RL.out.thru hb7)
                have R2 := Lib.hid (Reads.of_own ho2)
                have B2 := Lib.hid hb2
                have hn2' : l2.length ≤ 128 := by rw [hb2]; exact HBL.out.1
                clear hb2 ho2 hb7 F RL x0 x1
                go_wp2_with fail
                refine (prod_any A A2 l l2 c c2 _ RL2.out R2.out (by omega) (by omega)).mono ?_
                rintro e' w8 ⟨A3, c3, l3, rfl, hl3, ho3, hb8⟩
                have F3 := Lib.hid (F2.out.below hb8)
                have R3 := Lib.hid (Reads.of_own ho3)
                have V3 := Lib.hid (show Bt.val l3 = a ^ (i + 1) by rw [hl3.1, List.take_length, HV.out, B2.out, Bt.val_bits, Nat.pow_succ])
                have N3 := Lib.hid (show 0 < a → Bt.Norm l3 from fun h => hl3.2.2 (by rw [B2.out]; exact Bt.norm_bits a) (by rw [B2.out]; exact HBL.out.2.2 h))
                have Z3 := Lib.hid (show a = 0 → l3.length ≤ 1 from fun h => by
                  have h1 := hl3.2.1
                  rw [B2.out, HBL.out.2.1 h] at h1
                  have := HZ.out h
                  simp at h1
                  omega)
                have hl3b : l3.length ≤ 400 := by have := hl3.2.1; omega
                clear hl3 ho3 hb8 F2 RL2 R2
                by_cases h200 : l3.length ≤ 200
                · go_wp2_with fail
                  go_roundw
                  case rel => exact ⟨i + 1, c3, A3, l3, hlt, by simp, rfl, V3.out, h200, Z3.out, N3.out, R3.out, F3.out⟩
                  case measure => simp [intOf]; omega
                · have hap : 0 < a := by
                    rcases Nat.eq_zero_or_pos a with h | h
                    · have := Z3.out h; omega
                    · exact h
                  have HBIG := Lib.hid (show fitN (a ^ (i + 1)) = pn ∧ fitE (a ^ (i + 1)) = pe by
                    have h1 := Bt.norm_len_gt (N3.out hap) (k := 200) (by omega)
                    rw [V3.out] at h1
                    have h2 : 2 ^ 128 ≤ 2 ^ 200 := Nat.pow_le_pow_right (by omega) (by omega)
                    have h3 := Rt.pow_big (a := a) (i := i + 1) (n := m) (by omega) hlt
                    rw [PN.out, PE.out]
                    exact ⟨by rw [show fitN (a ^ (i + 1)) = 0 from if_neg (by omega), show fitN (a ^ m) = 0 from if_neg (by omega)], by rw [show fitE (a ^ (i + 1)) = 2 from if_neg (by omega), show fitE (a ^ m) = 2 from if_neg (by omega)]⟩)
                  have z0 := F3.out.hd.cell 0
                  have z1 := F3.out.hd.cell 1
                  simp at z0 z1
                  have h201 : 200 < l3.length := by omega
                  clear h200
                  go_wp2_with fail
                  refine (same_told A3 l3 c3 (a ^ (i + 1)) pn pe V3.out HBIG.out.1 HBIG.out.2 _ R3.out (by omega)).mono ?_
                  rintro e' w9 ⟨rfl, hb9⟩
                  go_wp2
                  go_ret
                  exact ⟨rfl, (F3.out.below hb9).bel⟩
              · have him : i = m := by omega
                subst him
                have z0 := F.out.hd.cell 0
                have z1 := F.out.hd.cell 1
                simp at z0 z1
                go_wp2_with fail
                refine (same_told A l c (a ^ i) pn pe HV.out PN.out.symm PE.out.symm _ RL.out (by omega)).mono ?_
                rintro e' w9 ⟨rfl, hb9⟩
                go_wp2
                go_ret
                exact ⟨rfl, (F.out.below hb9).bel⟩
end Go.Proofs.Ytoemnfjodhbbgad
