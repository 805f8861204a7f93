/- hist.Between and the reference's Between, walked. -/
import Derived.Test.YtfenbjffjeidmabHistF
namespace Go.Proofs.Ytfenbjffjeidmab
open Go.RowKit
set_option linter.unusedSimpArgs false
set_option linter.unusedVariables false

def partB (num den : Int) : Bool := wi den 1 1000 && wi num 0 den
/-- what Between answers -/
def betR (l : List Int) (num den : Int) : Int × Int × Int :=
  if histE l ≠ 0 then (0, 0, histE l) else if partB num den = false then (0, 0, 1) else if Hi.pre l 26 = 0 then (0, 0, 4)
  else (Hi.lowOf (Hi.classOf l (Hi.Kof (Hi.pre l 26) num den)), Hi.highOf (Hi.classOf l (Hi.Kof (Hi.pre l 26) num den)), 0)

theorem pow_small {j : Nat} (h : j ≤ 24) : (1 : Int) ≤ 2 ^ j ∧ (2 : Int) ^ j ≤ 16777216 := by
  have e : (2 : Int) ^ j = ((2 ^ j : Nat) : Int) := (Int.natCast_pow 2 j).symm
  have h1 := Nat.pow_le_pow_right (show 0 < 2 by omega) h
  have h2 := Nat.one_le_two_pow (n := j)
  have h3 : (2 : Nat) ^ 24 = 16777216 := by decide
  rw [e]
  omega

theorem high_succ (j : Nat) : Hi.highOf (j + 1) = min (2 ^ (j + 1) - 1) 16777216 := by
  unfold Hi.highOf
  rw [if_neg (by omega), Int.min_def]

section
set_option maxHeartbeats 2000000
set_option maxRecDepth 100000
theorem hbet_is (l : List Int) (h26 : l.length = 26) (num den : Int) (n0 : -9223372036854775808 ≤ num) (n1 : num ≤ 9223372036854775807) (d0 : -9223372036854775808 ≤ den) (d1 : den ≤ 9223372036854775807) (w : World) :
    Calls Try.prog 6 #[.agg (histA l), .int .i64 num, .int .i64 den] w fun e' w' => e' = .returned (.tuple #[.int .i64 (betR l num den).1, .int .i64 (betR l num den).2.1, .int .i64 (betR l num den).2.2]) ∧ Below w.heap.size w w' := by
  obtain ⟨hz, hi⟩ := zero_of_info hist_info
  obtain ⟨hz2, hi2⟩ := zero_of_info hist_arr
  have HCK := Lib.hid (fun w => hcheck_is l h26 _ rfl w)
  have hsz : (histA l).size = 26 := by rw [histA_size, h26]
  have HI := Lib.hid (show (Try.prog.info? 24).map (·.size) = some (histA l).size by rw [hsz]; exact hi)
  have HI2 := Lib.hid (show (Try.prog.info? 22).map (·.size) = some (histA l).size by rw [hsz]; exact hi2)
  have H26 := Lib.hid h26
  have HAT := Lib.hid (fun k (h : k < 26) => histA_at l k (by omega))
  have HRE := Lib.hid (show histE l ≠ 0 → betR l num den = (0, 0, histE l) from fun h => by unfold betR; rw [if_pos h])
  have HRP := Lib.hid (show histE l = 0 → partB num den = false → betR l num den = (0, 0, 1) from fun h h2 => by unfold betR; rw [if_neg (by simp [h]), if_pos h2])
  have HRZ := Lib.hid (show histE l = 0 → partB num den = true → Hi.pre l 26 = 0 → betR l num den = (0, 0, 4) from fun h h2 h3 => by unfold betR; rw [if_neg (by simp [h]), if_neg (by simp [h2]), if_pos h3])
  have HRV := Lib.hid (show histE l = 0 → partB num den = true → Hi.pre l 26 ≠ 0 → betR l num den = (Hi.lowOf (Hi.classOf l (Hi.Kof (Hi.pre l 26) num den)), Hi.highOf (Hi.classOf l (Hi.Kof (Hi.pre l 26) num den)), 0) from fun h h2 h3 => by unfold betR; rw [if_neg (by simp [h]), if_neg (by simp [h2]), if_neg h3])
  have OA := Lib.hid (show histE l = 0 → Hi.Ok l from fun h => by unfold histE at h; split at h; assumption; simp at h)
  clear hi hi2 hz hz2 hsz h26
  generalize hcs : histA l = cs at *
  have HCS := Lib.hid hcs
  clear hcs
  have E := Lib.hid ((Env.start w).lay cs 24)
  go_enter Try.func6, Try.ntmps6
  go_wp2_with (refine wpList_load_row rfl 24 _ rfl w.heap.size rfl 24 cs (0, 0) _ E.out.hd Try.underlying24 rfl HI.out ?_)
  refine (HCK.out _).mono ?_
  rintro e' w1 ⟨rfl, hb1⟩
  have E1 := Lib.hid (E.out.below hb1)
  clear hb1 E
  have p0 := E1.out.hd.lt
  by_cases he : histE l = 0
  · rw [he]
    have HE := Lib.hid he
    have HOK := Lib.hid (OA.out he)
    clear he
    by_cases hp : partB num den = true
    · obtain ⟨hp1, hp2⟩ := (Bool.and_eq_true _ _).mp hp
      obtain ⟨q0, q1⟩ := wi_true.1 hp1
      obtain ⟨q2, q3⟩ := wi_true.1 hp2
      have HP := Lib.hid hp
      clear hp hp1 hp2
      go_wp2_with (refine wpList_load_row rfl 22 _ rfl w.heap.size rfl 24 cs (0, 0) _ E1.out.hd Try.underlying22 rfl HI2.out ?_)
      go_loop [10, 37] (fun al i => ∃ k : Nat, k ≤ 26 ∧ i = .int .i64 k ∧ al = .int .i64 (Hi.pre l k)) (fun _ i => 26 - (intOf i).toNat)
      case atStart => exact ⟨0, by omega, rfl, rfl⟩
      case round =>
        obtain ⟨k, hk, rfl, rfl⟩ := hrel
        obtain ⟨b0, b1⟩ := Hi.pre_bd HOK.out k (by have := H26.out; omega)
        by_cases hlt : k < 26
        · have x1 := index26 cs k hlt _ (HAT.out k hlt)
          obtain ⟨c0, c1⟩ := HOK.out k (by have := H26.out; omega)
          have HPS := Lib.hid (show Hi.pre l (k + 1) = Hi.pre l k + l.getD k 0 from rfl)
          generalize Hi.pre l k = s at *
          generalize l.getD k 0 = x at *
          go_wp2
          exact ⟨⟨k + 1, hlt, by simp, by rw [HPS.out]⟩, by simp [intOf]; omega⟩
        · have hk2 : k = 26 := by omega
          subst hk2
          by_cases hz : Hi.pre l 26 = 0
          · have HR := Lib.hid (HRZ.out HE.out HP.out hz)
            rw [hz]
            clear hz b0 b1
            go_wp2
            refine bodyPost_ret (v := .tuple #[.int .i64 0, .int .i64 0, .int .i64 4]) (by simp [results, Try.results6, go_sem]) rfl ⟨by rw [HR.out], E1.out.bel⟩
          · have HR := Lib.hid (HRV.out HE.out HP.out hz)
            have hzz : (Hi.pre l 26 == 0) = false := by simpa using hz
            have hpos : 0 < Hi.pre l 26 := by omega
            have hxb : 0 ≤ Hi.pre l 26 * num := Int.mul_nonneg b0 q2
            have hxc : Hi.pre l 26 * num ≤ 26 * 1073741824 * 1000 := Int.mul_le_mul b1 (by omega) q2 (by omega)
            have HK := Lib.hid (Hi.same_part (x := Hi.pre l 26 * num) (d := den) hxb q0)
            have HKP := Lib.hid (Hi.part_le (a := Hi.pre l 26) (n := num) (d := den) (by omega) q2 q0 q3)
            have HKZ := Lib.hid (Hi.Kof_pos (a := Hi.pre l 26) (n := num) (d := den) hxb q0)
            clear hz
            generalize hs : Hi.pre l 26 = s at *
            have HSU := Lib.hid hs
            clear hs
            have hmax : max 1 ((s * num + den - 1) / den) = Hi.Kof s num den := by
              have h := HK.out
              unfold Hi.Kof
              rw [← h, Int.max_def]
              split <;> split <;> omega
            have HC := Lib.hid (Hi.classOf_is (l := l) (K := Hi.Kof s num den) H26.out HKZ.out (by rw [HSU.out]; exact HKP.out))
            generalize Hi.Kof s num den = K at *
            generalize Hi.classOf l K = b at *
            have hb26 : b < 26 := by have := HC.out.1; have := H26.out; omega
            go_wp2
            clear hmax HK HKP hxb hxc
            go_loop [13, 14] (fun lv kv => ∃ k : Nat, k ≤ b ∧ kv = .int .i64 k ∧ lv = .int .i64 (K - Hi.pre l k)) (fun _ kv => b - (intOf kv).toNat)
            case atStart => exact ⟨0, by omega, rfl, by simp [Hi.pre]⟩
            case round =>
              obtain ⟨k, hk, rfl, rfl⟩ := hrel
              have x0 := (E1.out.hd.cell k).trans (HAT.out k (by omega))
              obtain ⟨c0, c1⟩ := HOK.out k (by have := H26.out; omega)
              obtain ⟨e0, e1⟩ := Hi.pre_bd HOK.out k (by have := H26.out; omega)
              have HPS := Lib.hid (show Hi.pre l (k + 1) = Hi.pre l k + l.getD k 0 from rfl)
              have hKle : K ≤ 27 * 1073741824 := by
                have := HC.out.2.2
                have := (Hi.pre_bd HOK.out (b + 1) (by have := H26.out; omega)).2
                omega
              have hK0 := HKZ.out
              by_cases hlt : k < b
              · have hgo : l.getD k 0 < K - Hi.pre l k := by
                  have := Hi.at_lt HOK.out HC.out hlt
                  rw [Hi.pre_succ] at this
                  omega
                generalize Hi.pre l k = t at *
                generalize l.getD k 0 = x at *
                go_wp2
                exact ⟨⟨k + 1, hlt, by simp, by rw [HPS.out, Int.sub_sub]⟩, by simp [intOf]; omega⟩
              · have hkb : k = b := by omega
                subst hkb
                have hst : ¬ l.getD k 0 < K - Hi.pre l k := by
                  have := HC.out.2.2
                  rw [Hi.pre_succ] at this
                  omega
                have hpl : Hi.pre l k < K := HC.out.2.1
                generalize Hi.pre l k = t at *
                generalize l.getD k 0 = x at *
                cases k with
                | zero =>
                  have HR2 := Lib.hid (show betR l num den = (0, 0, 0) from HR.out)
                  go_wp2
                  refine bodyPost_ret (v := .tuple #[.int .i64 0, .int .i64 0, .int .i64 0]) (by simp [results, Try.results6, go_sem]) rfl ⟨by rw [HR2.out], E1.out.bel⟩
                | succ j =>
                  obtain ⟨hpw0, hpw⟩ := pow_small (show j ≤ 24 by omega)
                  have HR2 := Lib.hid (show betR l num den = (2 ^ j, Hi.highOf (j + 1), 0) from HR.out)
                  go_wp2
                  go_region
                  go_wp2
                  refine bodyPost_ret (v := .tuple #[.int .i64 (2 ^ j), .int .i64 (min (2 ^ (j + 1) - 1) 16777216), .int .i64 0]) (by simp [results, Try.results6, go_sem]) rfl ⟨by rw [HR2.out, high_succ], E1.out.bel.drew⟩
    · have HR := Lib.hid (HRP.out HE.out (by simpa using hp))
      have hp' : (¬ 1 ≤ den) ∨ (¬ den ≤ 1000) ∨ (¬ 0 ≤ num) ∨ (¬ num ≤ den) := by
        simp only [partB, Bool.and_eq_true, wi_true] at hp
        omega
      clear hp
      rcases hp' with hp | hp | hp | hp
      all_goals
        go_wp2
        all_goals
          refine bodyPost_ret (v := .tuple #[.int .i64 0, .int .i64 0, .int .i64 1]) (by simp [results, Try.results6, go_sem]) rfl ⟨by rw [HR.out], E1.out.bel⟩
  · have hne : (histE l == 0) = false := by simpa using he
    have HR := Lib.hid (HRE.out he)
    clear he
    generalize histE l = e at *
    go_wp2
    refine bodyPost_ret (v := .tuple #[.int .i64 0, .int .i64 0, .int .i64 e]) (by simp [results, Try.results6, go_sem]) rfl ⟨by rw [HR.out], E1.out.bel⟩
end
end Go.Proofs.Ytfenbjffjeidmab
