/- The reference's Hist, Between and Long, walked. -/
import Derived.Test.YtfenbjffjeidmabHistB
import Derived.Deep.DeepCutAuto
namespace Go.Proofs.Ytfenbjffjeidmab
open Go.RowKit
set_option linter.unusedSimpArgs false
set_option linter.unusedVariables false

theorem rlong_any (n : Int) (h : wi n 0 16777216 = true) (w : World) :
    Calls Try.prog 12 #[.int .i64 n] w fun e w' => e = .returned (.int .i64 (Bt.blen n.toNat)) ∧ w = w' := by
  have hb := blen_val h
  obtain ⟨h0, h1⟩ := wi_true.1 h
  obtain ⟨m, rfl⟩ := Int.eq_ofNat_of_zero_le h0
  rw [Int.toNat_natCast] at hb ⊢
  have HP := Lib.hid (fun k => @Hi.blen_pow m k)
  generalize Bt.blen m = b at *
  clear h
  go_enter Try.func12, Try.ntmps12
  go_wp2
  go_loop [3] (fun v => ∃ k : Nat, k ≤ b ∧ v = .int .i64 k) (fun v => b - (intOf v).toNat)
  case atStart => exact ⟨0, by omega, rfl⟩
  case round =>
    obtain ⟨k, hk, rfl⟩ := hrel
    have e : (2 : Int) ^ k = ((2 ^ k : Nat) : Int) := (Int.natCast_pow 2 k).symm
    have hp0 : 0 < (2 : Int) ^ k := by
      rw [e]
      have := Nat.one_le_two_pow (n := k)
      omega
    have hp1 : (2 : Int) ^ k ≤ 33554432 := by
      rw [e]
      have h1 := Nat.pow_le_pow_right (show 0 < 2 by omega) (show k ≤ 25 by omega)
      have h3 : (2 : Nat) ^ 25 = 33554432 := by decide
      omega
    by_cases hlt : k < b
    · have hg : (2 : Int) ^ k ≤ (m : Int) := by
        have := (HP.out k).2 hlt
        rw [e]; omega
      clear e
      go_wp2
      exact ⟨⟨k + 1, hlt, by simp⟩, by simp [intOf]; omega⟩
    · have hg : ¬ (2 : Int) ^ k ≤ (m : Int) := by
        have := mt (HP.out k).1 (by omega)
        rw [e]; omega
      have HKB := Lib.hid (show k = b by omega)
      clear e
      go_wp2
      go_ret
      exact ⟨by first | rfl | (rw [HKB.out]; rfl), rfl⟩

section
set_option maxHeartbeats 2000000
set_option maxRecDepth 100000
theorem rbet_is (l : List Int) (h26 : l.length = 26) (he : histE l = 0) (num den : Int) (hp : partB num den = true) (w : World) :
    Calls Try.prog 10 #[.agg (histA l), .int .i64 num, .int .i64 den] w fun e' w' => e' = .returned (.tuple #[.int .i64 (betR l num den).1, .int .i64 (betR l num den).2.1, .int .i64 (betR l num den).2.2]) ∧ Below w.heap.size w w' := by
  obtain ⟨hz2, hi2⟩ := zero_of_info hist_arr
  have hsz : (histA l).size = 26 := by rw [histA_size, h26]
  have HI2 := Lib.hid (show (Try.prog.info? 22).map (·.size) = some (histA l).size by rw [hsz]; exact hi2)
  have H26 := Lib.hid h26
  have HAT := Lib.hid (fun k (h : k < 26) => histA_at l k (by omega))
  have HRZ := Lib.hid (show Hi.pre l 26 = 0 → betR l num den = (0, 0, 4) from fun h3 => by unfold betR; rw [if_neg (by simp [he]), if_neg (by simp [hp]), if_pos h3])
  have HRV := Lib.hid (show Hi.pre l 26 ≠ 0 → betR l num den = (Hi.lowOf (Hi.classOf l (Hi.Kof (Hi.pre l 26) num den)), Hi.highOf (Hi.classOf l (Hi.Kof (Hi.pre l 26) num den)), 0) from fun h3 => by unfold betR; rw [if_neg (by simp [he]), if_neg (by simp [hp]), if_neg h3])
  have HOK := Lib.hid (show Hi.Ok l from by unfold histE at he; split at he; assumption; simp at he)
  obtain ⟨hp1, hp2⟩ := (Bool.and_eq_true _ _).mp hp
  obtain ⟨q0, q1⟩ := wi_true.1 hp1
  obtain ⟨q2, q3⟩ := wi_true.1 hp2
  clear hi2 hz2 hsz h26 he hp hp1 hp2
  generalize hcs : histA l = cs at *
  have HCS := Lib.hid hcs
  clear hcs
  have E1 := Lib.hid ((Env.start w).lay cs 24)
  go_enter Try.func10, Try.ntmps10
  go_wp2_with (refine wpList_load_row rfl 22 _ rfl w.heap.size rfl 24 cs (0, 0) _ E1.out.hd Try.underlying22 rfl HI2.out ?_)
  go_loop [9, 19] (fun al i => ∃ k : Nat, k ≤ 26 ∧ i = .int .i64 k ∧ al = .int .i64 (Hi.pre l k)) (fun _ i => 26 - (intOf i).toNat)
  case atStart => exact ⟨0, by omega, rfl, rfl⟩
  case round =>
    obtain ⟨k, hk, rfl, rfl⟩ := hrel
    obtain ⟨b0, b1⟩ := Hi.pre_bd HOK.out k (by have := H26.out; omega)
    by_cases hlt : k < 26
    · have x1 := index26 cs k hlt _ (HAT.out k hlt)
      obtain ⟨c0, c1⟩ := HOK.out k (by have := H26.out; omega)
      have HPS := Lib.hid (show Hi.pre l (k + 1) = Hi.pre l k + l.getD k 0 from rfl)
      generalize Hi.pre l k = s at *
      generalize l.getD k 0 = x at *
      go_wp2
      exact ⟨⟨k + 1, hlt, by simp, by rw [HPS.out]⟩, by simp [intOf]; omega⟩
    · have hk2 : k = 26 := by omega
      subst hk2
      by_cases hz : Hi.pre l 26 = 0
      · have HR := Lib.hid (HRZ.out hz)
        rw [hz]
        clear hz b0 b1
        go_wp2
        refine bodyPost_ret (v := .tuple #[.int .i64 0, .int .i64 0, .int .i64 4]) (by simp [results, Try.results10, go_sem]) rfl ⟨by rw [HR.out], E1.out.bel⟩
      · have HR := Lib.hid (HRV.out hz)
        have hzz : (Hi.pre l 26 == 0) = false := by simpa using hz
        have hpos : 0 < Hi.pre l 26 := by omega
        have hxb : 0 ≤ Hi.pre l 26 * num := Int.mul_nonneg b0 q2
        have hxc : Hi.pre l 26 * num ≤ 26 * 1073741824 * 1000 := Int.mul_le_mul b1 (by omega) q2 (by omega)
        have hqb : 0 ≤ Hi.pre l 26 * num / den := Int.ediv_nonneg hxb (by omega)
        have hqc : Hi.pre l 26 * num / den ≤ 26 * 1073741824 * 1000 := by
          have := Int.ediv_le_self den hxb
          omega
        have hqd : Hi.pre l 26 * num / den * den ≤ Hi.pre l 26 * num := Int.ediv_mul_le _ (by omega)
        have hqe : 0 ≤ Hi.pre l 26 * num / den * den := Int.mul_nonneg hqb (by omega)
        have HKP := Lib.hid (Hi.part_le (a := Hi.pre l 26) (n := num) (d := den) (by omega) q2 q0 q3)
        have HKZ := Lib.hid (Hi.Kof_pos (a := Hi.pre l 26) (n := num) (d := den) hxb q0)
        have HC := Lib.hid (Hi.classOf_is (l := l) (K := Hi.Kof (Hi.pre l 26) num den) H26.out HKZ.out HKP.out)
        have HKD := Lib.hid (show Hi.Kof (Hi.pre l 26) num den = if Hi.pre l 26 * num / den * den < Hi.pre l 26 * num ∨ Hi.pre l 26 * num / den = 0 then Hi.pre l 26 * num / den + 1 else Hi.pre l 26 * num / den from rfl)
        clear hz
        generalize Hi.Kof (Hi.pre l 26) num den = K at *
        generalize hs : Hi.pre l 26 = s at *
        have HSU := Lib.hid hs
        clear hs
        generalize Hi.classOf l K = b at *
        have hb26 : b < 26 := by have := HC.out.1; have := H26.out; omega
        by_cases hc1 : s * num / den * den < s * num
        · have HKV := Lib.hid (show s * num / den + 1 = K by rw [HKD.out, if_pos (.inl hc1)])
          go_wp2_with (refine wpList_load_row rfl 22 _ rfl w.heap.size rfl 24 cs (0, 0) _ E1.out.hd Try.underlying22 rfl HI2.out ?_)
          rw [HKV.out]
          clear hc1 HKV
          clear HKD hqb hqc hqd hqe hxb hxc
          go_loop [13, 48] (fun av kv => ∃ k : Nat, k ≤ b ∧ kv = .int .i64 k ∧ av = .int .i64 (Hi.pre l k)) (fun _ kv => b - (intOf kv).toNat)
          case atStart => exact ⟨0, by omega, rfl, rfl⟩
          case round =>
            obtain ⟨k, hk, rfl, rfl⟩ := hrel
            have x1 := index26 cs k (by omega) _ (HAT.out k (by omega))
            obtain ⟨c0, c1⟩ := HOK.out k (by have := H26.out; omega)
            obtain ⟨e0, e1⟩ := Hi.pre_bd HOK.out k (by have := H26.out; omega)
            have HPS := Lib.hid (show Hi.pre l (k + 1) = Hi.pre l k + l.getD k 0 from rfl)
            have hk26 : k < 26 := by omega
            by_cases hlt : k < b
            · have hgo : ¬ K ≤ Hi.pre l k + l.getD k 0 := by
                have := Hi.at_lt HOK.out HC.out hlt
                rw [Hi.pre_succ] at this
                omega
              generalize Hi.pre l k = t at *
              generalize l.getD k 0 = x at *
              go_wp2
              exact ⟨⟨k + 1, hlt, by simp, by rw [HPS.out]⟩, by simp [intOf]; omega⟩
            · have hkb : k = b := by omega
              subst hkb
              have hst : K ≤ Hi.pre l k + l.getD k 0 := by
                have := HC.out.2.2
                rw [Hi.pre_succ] at this
                omega
              generalize Hi.pre l k = t at *
              generalize l.getD k 0 = x at *
              cases k with
              | zero =>
                have HR2 := Lib.hid (show betR l num den = (0, 0, 0) from HR.out)
                push_cast at x1
                go_wp2
                refine bodyPost_ret (v := .tuple #[.int .i64 0, .int .i64 0, .int .i64 0]) (by simp [results, Try.results10, go_sem]) rfl ⟨by rw [HR2.out], E1.out.bel⟩
              | succ j =>
                have HR2 := Lib.hid (show betR l num den = (2 ^ j, Hi.highOf (j + 1), 0) from HR.out)
                push_cast at x1
                go_wp2
                go_loop [16, 62] (fun lv iv => ∃ i : Nat, i ≤ j ∧ iv = .int .i64 i ∧ lv = .int .i64 (2 ^ i)) (fun _ iv => j - (intOf iv).toNat)
                case atStart => exact ⟨0, by omega, rfl, rfl⟩
                case round =>
                  obtain ⟨i, hi, rfl, rfl⟩ := hrel
                  obtain ⟨g0, g1⟩ := pow_small (show i ≤ 24 by omega)
                  have HPW := Lib.hid (show (2 : Int) ^ (i + 1) = 2 ^ i * 2 from rfl)
                  by_cases hij : i < j
                  · generalize (2 : Int) ^ i = pw at *
                    go_wp2
                    exact ⟨⟨i + 1, hij, by simp, by rw [HPW.out]⟩, by simp [intOf]; omega⟩
                  · have hij2 : i = j := by omega
                    subst hij2
                    generalize (2 : Int) ^ i = pw at *
                    go_wp2
                    refine bodyPost_ret (v := .tuple #[.int .i64 pw, .int .i64 (min 16777216 (2 * pw - 1)), .int .i64 0]) (by simp [results, Try.results10, go_sem]) rfl ⟨by rw [HR2.out, high_succ, HPW.out, Int.min_comm, Int.mul_comm], E1.out.bel⟩
        · by_cases hc2 : s * num / den = 0
          · have hK1 : K = 1 := by rw [HKD.out, if_pos (.inr hc2), hc2]; rfl
            clear HKD
            subst hK1
            rw [hc2] at hc1
            go_wp2_with (refine wpList_load_row rfl 22 _ rfl w.heap.size rfl 24 cs (0, 0) _ E1.out.hd Try.underlying22 rfl HI2.out ?_)
            clear hc1 hc2
            clear hqb hqc hqd hqe hxb hxc
            go_loop [13, 48] (fun av kv => ∃ k : Nat, k ≤ b ∧ kv = .int .i64 k ∧ av = .int .i64 (Hi.pre l k)) (fun _ kv => b - (intOf kv).toNat)
            case atStart => exact ⟨0, by omega, rfl, rfl⟩
            case round =>
              obtain ⟨k, hk, rfl, rfl⟩ := hrel
              have x1 := index26 cs k (by omega) _ (HAT.out k (by omega))
              obtain ⟨c0, c1⟩ := HOK.out k (by have := H26.out; omega)
              obtain ⟨e0, e1⟩ := Hi.pre_bd HOK.out k (by have := H26.out; omega)
              have HPS := Lib.hid (show Hi.pre l (k + 1) = Hi.pre l k + l.getD k 0 from rfl)
              have hk26 : k < 26 := by omega
              by_cases hlt : k < b
              · have hgo : ¬ 1 ≤ Hi.pre l k + l.getD k 0 := by
                  have := Hi.at_lt HOK.out HC.out hlt
                  rw [Hi.pre_succ] at this
                  omega
                generalize Hi.pre l k = t at *
                generalize l.getD k 0 = x at *
                go_wp2
                exact ⟨⟨k + 1, hlt, by simp, by rw [HPS.out]⟩, by simp [intOf]; omega⟩
              · have hkb : k = b := by omega
                subst hkb
                have hst : 1 ≤ Hi.pre l k + l.getD k 0 := by
                  have := HC.out.2.2
                  rw [Hi.pre_succ] at this
                  omega
                generalize Hi.pre l k = t at *
                generalize l.getD k 0 = x at *
                cases k with
                | zero =>
                  have HR2 := Lib.hid (show betR l num den = (0, 0, 0) from HR.out)
                  push_cast at x1
                  go_wp2
                  refine bodyPost_ret (v := .tuple #[.int .i64 0, .int .i64 0, .int .i64 0]) (by simp [results, Try.results10, go_sem]) rfl ⟨by rw [HR2.out], E1.out.bel⟩
                | succ j =>
                  have HR2 := Lib.hid (show betR l num den = (2 ^ j, Hi.highOf (j + 1), 0) from HR.out)
                  push_cast at x1
                  go_wp2
                  go_loop [16, 62] (fun lv iv => ∃ i : Nat, i ≤ j ∧ iv = .int .i64 i ∧ lv = .int .i64 (2 ^ i)) (fun _ iv => j - (intOf iv).toNat)
                  case atStart => exact ⟨0, by omega, rfl, rfl⟩
                  case round =>
                    obtain ⟨i, hi, rfl, rfl⟩ := hrel
                    obtain ⟨g0, g1⟩ := pow_small (show i ≤ 24 by omega)
                    have HPW := Lib.hid (show (2 : Int) ^ (i + 1) = 2 ^ i * 2 from rfl)
                    by_cases hij : i < j
                    · generalize (2 : Int) ^ i = pw at *
                      go_wp2
                      exact ⟨⟨i + 1, hij, by simp, by rw [HPW.out]⟩, by simp [intOf]; omega⟩
                    · have hij2 : i = j := by omega
                      subst hij2
                      generalize (2 : Int) ^ i = pw at *
                      go_wp2
                      refine bodyPost_ret (v := .tuple #[.int .i64 pw, .int .i64 (min 16777216 (2 * pw - 1)), .int .i64 0]) (by simp [results, Try.results10, go_sem]) rfl ⟨by rw [HR2.out, high_succ, HPW.out, Int.min_comm, Int.mul_comm], E1.out.bel⟩
          · have hc3 : (s * num / den == 0) = false := by simpa using hc2
            have HKV := Lib.hid (show s * num / den = K by rw [HKD.out, if_neg (by rintro (h | h); exact hc1 h; exact hc2 h)])
            clear hc2
            go_wp2_with (refine wpList_load_row rfl 22 _ rfl w.heap.size rfl 24 cs (0, 0) _ E1.out.hd Try.underlying22 rfl HI2.out ?_)
            rw [HKV.out]
            clear hc1 hc3 HKV
            clear HKD hqb hqc hqd hqe hxb hxc
            go_loop [13, 48] (fun av kv => ∃ k : Nat, k ≤ b ∧ kv = .int .i64 k ∧ av = .int .i64 (Hi.pre l k)) (fun _ kv => b - (intOf kv).toNat)
            case atStart => exact ⟨0, by omega, rfl, rfl⟩
            case round =>
              obtain ⟨k, hk, rfl, rfl⟩ := hrel
              have x1 := index26 cs k (by omega) _ (HAT.out k (by omega))
              obtain ⟨c0, c1⟩ := HOK.out k (by have := H26.out; omega)
              obtain ⟨e0, e1⟩ := Hi.pre_bd HOK.out k (by have := H26.out; omega)
              have HPS := Lib.hid (show Hi.pre l (k + 1) = Hi.pre l k + l.getD k 0 from rfl)
              have hk26 : k < 26 := by omega
              by_cases hlt : k < b
              · have hgo : ¬ K ≤ Hi.pre l k + l.getD k 0 := by
                  have := Hi.at_lt HOK.out HC.out hlt
                  rw [Hi.pre_succ] at this
                  omega
                generalize Hi.pre l k = t at *
                generalize l.getD k 0 = x at *
                go_wp2
                exact ⟨⟨k + 1, hlt, by simp, by rw [HPS.out]⟩, by simp [intOf]; omega⟩
              · have hkb : k = b := by omega
                subst hkb
                have hst : K ≤ Hi.pre l k + l.getD k 0 := by
                  have := HC.out.2.2
                  rw [Hi.pre_succ] at this
                  omega
                generalize Hi.pre l k = t at *
                generalize l.getD k 0 = x at *
                cases k with
                | zero =>
                  have HR2 := Lib.hid (show betR l num den = (0, 0, 0) from HR.out)
                  push_cast at x1
                  go_wp2
                  refine bodyPost_ret (v := .tuple #[.int .i64 0, .int .i64 0, .int .i64 0]) (by simp [results, Try.results10, go_sem]) rfl ⟨by rw [HR2.out], E1.out.bel⟩
                | succ j =>
                  have HR2 := Lib.hid (show betR l num den = (2 ^ j, Hi.highOf (j + 1), 0) from HR.out)
                  push_cast at x1
                  go_wp2
                  go_loop [16, 62] (fun lv iv => ∃ i : Nat, i ≤ j ∧ iv = .int .i64 i ∧ lv = .int .i64 (2 ^ i)) (fun _ iv => j - (intOf iv).toNat)
                  case atStart => exact ⟨0, by omega, rfl, rfl⟩
                  case round =>
                    obtain ⟨i, hi, rfl, rfl⟩ := hrel
                    obtain ⟨g0, g1⟩ := pow_small (show i ≤ 24 by omega)
                    have HPW := Lib.hid (show (2 : Int) ^ (i + 1) = 2 ^ i * 2 from rfl)
                    by_cases hij : i < j
                    · generalize (2 : Int) ^ i = pw at *
                      go_wp2
                      exact ⟨⟨i + 1, hij, by simp, by rw [HPW.out]⟩, by simp [intOf]; omega⟩
                    · have hij2 : i = j := by omega
                      subst hij2
                      generalize (2 : Int) ^ i = pw at *
                      go_wp2
                      refine bodyPost_ret (v := .tuple #[.int .i64 pw, .int .i64 (min 16777216 (2 * pw - 1)), .int .i64 0]) (by simp [results, Try.results10, go_sem]) rfl ⟨by rw [HR2.out, high_succ, HPW.out, Int.min_comm, Int.mul_comm], E1.out.bel⟩
end
end Go.Proofs.Ytfenbjffjeidmab
