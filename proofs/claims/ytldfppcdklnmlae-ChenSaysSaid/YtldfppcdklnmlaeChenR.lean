/- The reference's Expect, walked: the lists that are to be walked through. -/
import Derived.Test.YtldfppcdklnmlaeChen
import Derived.Test.YtldfppcdklnmlaeLate
namespace Go.Proofs.Ytldfppcdklnmlae
open Go.RowKit
set_option linter.unusedSimpArgs false
set_option linter.unusedVariables false

theorem quiet_eq {P : Program} {f : FuncId} {args : Array Value} {w : World} {n : Nat} {v : Value}
    (h : Calls P f args (w.drewN n) fun e w' => e = .returned v ∧ w.drewN n = w') : Calls P f args (w.drewN n) fun e w'' => e = .returned v ∧ ∃ m, w'' = w.drewN m :=
  h.mono fun _ _ ⟨he, hm⟩ => ⟨he, n, hm.symm⟩

set_option maxHeartbeats 2000000 in
theorem rexp_run (A A' : Option Addr) (c c' B n : Nat) (S T : List Int) (hn : S.length = n) (hm : T.length = n) (ev : Int) (h0 : n ≤ 64) (h1 : 1 ≤ n) (h : 1 ≤ ev) (h' : ev ≤ 16777216) (hc : n ≤ c) (hcm : c ≤ maxLen) (hc' : n ≤ c') (hcm' : c' ≤ maxLen) (w : World) (hr : Reads w B 1 A n (cellsI S)) (hr' : Reads w B 1 A' n (cellsI T)) :
    Calls Try.prog 6 #[.slice A n c, .slice A' n c', .int .i64 ev] w (ExpIs S T ev w) := by
  have hw := wi_true.2 ⟨h, h'⟩
  have HS := Lib.hid hn
  have HT := Lib.hid hm
  obtain ⟨g, off, rfl, hg, hcells⟩ := hr.addr (by omega)
  obtain ⟨g', off', rfl, hg', hcells'⟩ := hr'.addr (by omega)
  have HC := Lib.hid hcells
  have HC' := Lib.hid hcells'
  have hnz : ((n : Int) == 0) = false := by simp; omega
  have hnn : ((n : Int) != (n : Int)) = false := by simp
  have H1 := Lib.hid hw
  have HX := Lib.hid (show ¬ (64 < S.length ∨ 64 < T.length) by omega)
  clear hn hm hr hr' hcells hcells' hg hg'
  go_enter Try.func6, Try.ntmps6
  go_wp2_with (go_at_call 9; refine (within_any _ _ _ _).mono ?_; rintro e' w' ⟨rfl, rfl⟩)
  go_loopw [8, 34] (fun _ i wr => ∃ k : Nat, k ≤ n ∧ i = .int .i64 k ∧ (∀ j, j < k → GoodC S T j) ∧ ∃ d, wr = w.drewN d) (fun _ i _ => n - (intOf i).toNat)
  case atStart => exact ⟨0, Nat.zero_le _, rfl, fun j hj => by omega, 0, rfl⟩
  case round =>
    obtain ⟨k, hk, rfl, hrel, d, rfl⟩ := hrel
    have HG := Lib.hid hrel
    obtain ⟨l0, l1, l2⟩ := lastS_bd S T k hrel k (Nat.le_refl _)
    clear hrel
    by_cases hlt : k < n
    · have x0 : (w.drewN d).cell? ⟨g, off + k, none⟩ = some (.int .i64 (gI S k)) := HC.out k _ (cellsI_at S k (by rw [HS.out]; exact hlt))
      have y0 : (w.drewN d).cell? ⟨g', off' + k, none⟩ = some (.int .i64 (gI T k)) := HC'.out k _ (cellsI_at T k (by rw [HT.out]; exact hlt))
      have z0 : 0 < k → (w.drewN d).cell? ⟨g, off + (k - 1), none⟩ = some (.int .i64 (lastS S k)) := fun hk0 => by
        have := HC.out (k - 1) _ (cellsI_at S (k - 1) (by rw [HS.out]; omega))
        have e : lastS S k = S.getD (k - 1) 0 := by
          obtain ⟨j, rfl⟩ : ∃ j, k = j + 1 := ⟨k - 1, by omega⟩
          rfl
        rw [e]; exact this
      have HBD := Lib.hid (fun hb => exp_bad (ev := ev) HX.out H1.out (HS.out.trans HT.out.symm) k (by rw [HS.out]; exact hlt) hb)
      have HGG := Lib.hid (show GoodC S T k ↔ (lastS S k < gI S k ∧ gI S k ≤ 1000000 ∧ 0 ≤ gI T k ∧ gI T k ≤ 1073741824) from Iff.rfl)
      have hW : ∃ W, W = w.drewN d := ⟨_, rfl⟩
      obtain ⟨W, hW⟩ := hW
      have HW := Lib.hid hW
      rw [← hW] at x0 y0 z0 ⊢
      clear hW
      by_cases b1 : wi (gI S k) 1 1000000 = true
      · by_cases b2 : wi (gI T k) 0 1073741824 = true
        · rcases Nat.eq_zero_or_pos k with hk0 | hk0
          · -- the first one: it is good
            have HGD := Lib.hid (show GoodC S T k by
              rw [HGG.out]
              have e : lastS S k = 0 := by rw [hk0]; rfl
              obtain ⟨p0, p1⟩ := wi_true.1 b1
              obtain ⟨p2, p3⟩ := wi_true.1 b2
              omega)
            subst hk0
            clear z0
            simp only [Nat.add_zero] at x0 y0
            generalize gI S 0 = x at *
            generalize gI T 0 = y at *
            go_wp2
            go_quiet ((first | (go_at_call 9; exact quiet_eq (within_any _ _ _ _)) | (go_at_call 10; exact quiet_eq (rtime_is _ _ rfl _))))
            go_wp2
            go_roundw
            case rel =>
              refine ⟨0 + 1, hlt, by simp, fun j hj => ?_, d + nq, by rw [HW.out]; exact World.drewN_drewN w d nq⟩
              by_cases e : j = 0
              · subst e; exact HGD.out
              · exact HG.out j (by omega)
            case measure => simp [intOf]; omega
          · have z1 := z0 hk0
            have hkk : (0 : Int) < (k : Int) := by omega
            have hkd : decide ((0 : Int) < (k : Int)) = true := by simpa using hkk
            have hk1 : (0 : Int) ≤ (k : Int) - 1 := by omega
            have hkn : (k : Int) < (n : Int) := by omega
            by_cases b3 : gI S k ≤ lastS S k
            · have HB := Lib.hid (HBD.out (by rw [HGG.out]; omega))
              have b3d : decide (gI S k ≤ lastS S k) = true := by simpa using b3
              clear z0
              generalize gI S k = x at *
              generalize gI T k = y at *
              generalize lastS S k = la at *
              go_wp2
              go_quiet ((first | (go_at_call 9; exact quiet_eq (within_any _ _ _ _)) | (go_at_call 10; exact quiet_eq (rtime_is _ _ rfl _))))
              go_wp2
              refine bodyPost_ret (v := .tuple #[.int .i64 0, .int .i64 1]) (by simp [results, Try.results6, go_sem]) rfl ?_
              exact exp_goes HB.out (by rw [HW.out]; exact below_drewN (below_drewN (Below.refl _ _) d) nq)
            · have HGD := Lib.hid (show GoodC S T k by
                rw [HGG.out]
                obtain ⟨p0, p1⟩ := wi_true.1 b1
                obtain ⟨p2, p3⟩ := wi_true.1 b2
                omega)
              have b3d : decide (gI S k ≤ lastS S k) = false := by simpa using b3
              clear z0
              generalize lastS S k = la at *
              generalize gI S k = x at *
              generalize gI T k = y at *
              go_wp2
              go_quiet ((first | (go_at_call 9; exact quiet_eq (within_any _ _ _ _)) | (go_at_call 10; exact quiet_eq (rtime_is _ _ rfl _))))
              go_wp2
              go_roundw
              case rel =>
                refine ⟨k + 1, hlt, by simp, fun j hj => ?_, d + nq, by rw [HW.out]; exact World.drewN_drewN w d nq⟩
                by_cases e : j = k
                · subst e; exact HGD.out
                · exact HG.out j (by omega)
              case measure => simp [intOf]; omega
        · have b2' : wi (gI T k) 0 1073741824 = false := by simpa using b2
          have HB := Lib.hid (HBD.out (by rw [HGG.out]; have := wi_false.1 b2'; omega))
          clear b2 z0
          generalize gI S k = x at *
          generalize gI T k = y at *
          go_wp2
          go_quiet ((first | (go_at_call 9; exact quiet_eq (within_any _ _ _ _)) | (go_at_call 10; exact quiet_eq (rtime_is _ _ rfl _))))
          go_wp2
          refine bodyPost_ret (v := .tuple #[.int .i64 0, .int .i64 1]) (by simp [results, Try.results6, go_sem]) rfl ?_
          exact exp_goes HB.out (by rw [HW.out]; exact below_drewN (below_drewN (Below.refl _ _) d) nq)
      · have b1' : wi (gI S k) 1 1000000 = false := by simpa using b1
        have HB := Lib.hid (HBD.out (by rw [HGG.out]; have := wi_false.1 b1'; omega))
        clear b1 z0
        generalize gI S k = x at *
        generalize gI T k = y at *
        go_wp2
        go_quiet ((first | (go_at_call 9; exact quiet_eq (within_any _ _ _ _)) | (go_at_call 10; exact quiet_eq (rtime_is _ _ rfl _))))
        go_wp2
        refine bodyPost_ret (v := .tuple #[.int .i64 0, .int .i64 1]) (by simp [results, Try.results6, go_sem]) rfl ?_
        exact exp_goes HB.out (by rw [HW.out]; exact below_drewN (below_drewN (Below.refl _ _) d) nq)
    · have hkn : k = n := by omega
      subst hkn
      have HALL := Lib.hid (show AllC S T from fun j hj => HG.out j (by rw [HS.out] at hj; exact hj))
      have HFI := Lib.hid (show sumR S T ev (lastS S k) k / (k : Int) + ev = expV S T ev ∧ expE S T ev = 0 by
        obtain ⟨a, b⟩ := exp_ok (ev := ev) HX.out H1.out (HS.out.trans HT.out.symm) HALL.out (by rw [HS.out]; omega)
        rw [HS.out] at b
        rw [b, expect_eq _ _ _ _ _ (by omega)]
        exact ⟨rfl, a⟩)
      have HSR := Lib.hid (fun j (hj : j ≤ k) => sumR_bd S T ev h h' k h0 HG.out j hj)
      have HLS := Lib.hid (fun j (hj : j < k) => show gI S j ≤ lastS S k by
        have e : lastS S k = gI S (k - 1) := by
          obtain ⟨m, rfl⟩ : ∃ m, k = m + 1 := ⟨k - 1, by omega⟩
          rfl
        have := seq_le S T k HG.out (k - 1 - j) j (by omega)
        rw [show j + (k - 1 - j) = k - 1 by omega] at this
        rw [e]; exact this)
      have HSB := Lib.hid (fun j (hj : j < k) => seq_bd S T k HG.out j hj)
      have hk1 : (0 : Int) ≤ (k : Int) - 1 := by omega
      have z0 : (w.drewN d).cell? ⟨g, off + (k - 1), none⟩ = some (.int .i64 (lastS S k)) := by
        have := HC.out (k - 1) _ (cellsI_at S (k - 1) (by rw [HS.out]; omega))
        have e : lastS S k = S.getD (k - 1) 0 := by
          obtain ⟨m, rfl⟩ : ∃ m, k = m + 1 := ⟨k - 1, by omega⟩
          rfl
        rw [e]; exact this
      have HSUC := Lib.hid (fun j => show sumR S T ev (lastS S k) (j + 1) = sumR S T ev (lastS S k) j + (gI T j + ev * (lastS S k - gI S j)) from rfl)
      clear l2
      generalize hla : lastS S k = la at *
      clear hla
      go_wp2
      go_loopw [11, 12, 79] (fun s _ i wr => ∃ j : Nat, j ≤ k ∧ i = .int .i64 j ∧ s = .int .i64 (sumR S T ev la j) ∧ ∃ d, wr = w.drewN d) (fun _ _ i _ => k - (intOf i).toNat)
      case atStart => exact ⟨0, Nat.zero_le _, rfl, rfl, d, rfl⟩
      case round =>
        obtain ⟨j, hj, rfl, rfl, d', rfl⟩ := hrel
        obtain ⟨q0, q1⟩ := HSR.out j hj
        by_cases hlt : j < k
        · have x0 : (w.drewN d').cell? ⟨g, off + j, none⟩ = some (.int .i64 (gI S j)) := HC.out j _ (cellsI_at S j (by rw [HS.out]; exact hlt))
          have y0 : (w.drewN d').cell? ⟨g', off' + j, none⟩ = some (.int .i64 (gI T j)) := HC'.out j _ (cellsI_at T j (by rw [HT.out]; exact hlt))
          have hW : ∃ W, W = w.drewN d' := ⟨_, rfl⟩
          obtain ⟨W, hW⟩ := hW
          have HW := Lib.hid hW
          rw [← hW] at x0 y0 ⊢
          clear hW z0
          have g0 := HLS.out j hlt
          obtain ⟨g1, g2⟩ := HSB.out j hlt
          obtain ⟨g3, g4⟩ := (HG.out j hlt).2.2
          obtain ⟨m0, m1⟩ := mul_bd h h' (x := la - gI S j) (by omega) (by omega)
          have HSJ := Lib.hid (HSUC.out j)
          generalize gI S j = x at *
          generalize gI T j = y at *
          generalize sumR S T ev la j = su at *
          go_wp2
          go_quiet (fail)
          go_wp2
          go_roundw
          case rel => exact ⟨j + 1, hlt, by simp, by rw [HSJ.out], d' + nq, by rw [HW.out]; exact World.drewN_drewN w d' nq⟩
          case measure => simp [intOf]; omega
        · have hjk : j = k := by omega
          have HF2 := Lib.hid (show sumR S T ev la j / (k : Int) + ev = expV S T ev ∧ expE S T ev = 0 by rw [hjk]; exact HFI.out)
          have hkj : k ≤ j := by omega
          clear hjk
          have hde := Int.emod_add_mul_ediv (sumR S T ev la j) k
          have hm0 := Int.emod_nonneg (sumR S T ev la j) (by omega : (k : Int) ≠ 0)
          have hm1 := Int.emod_lt_of_pos (sumR S T ev la j) (by omega : (0 : Int) < k)
          have hq0 : 0 ≤ sumR S T ev la j / (k : Int) := Int.ediv_nonneg q0 (by omega)
          have hq1 : sumR S T ev la j / (k : Int) ≤ sumR S T ev la j := Int.ediv_le_self _ q0
          have HQ := Lib.hid (show (sumR S T ev la j - sumR S T ev la j % (k : Int)) / (k : Int) = sumR S T ev la j / (k : Int) by
            have : sumR S T ev la j - sumR S T ev la j % (k : Int) = (k : Int) * (sumR S T ev la j / (k : Int)) := by omega
            rw [this, Int.mul_ediv_cancel_left _ (by omega : (k : Int) ≠ 0)])
          have hq2 : 0 ≤ sumR S T ev la j - sumR S T ev la j % (k : Int) := by
            have := Int.mul_nonneg (show (0 : Int) ≤ k by omega) hq0
            omega
          have hq3 : (sumR S T ev la j - sumR S T ev la j % (k : Int)) / (k : Int) ≤ 1125899906842624 := by rw [HQ.out]; omega
          have hq4 : 0 ≤ (sumR S T ev la j - sumR S T ev la j % (k : Int)) / (k : Int) := by rw [HQ.out]; omega
          clear hde
          generalize sumR S T ev la j = su at *
          go_wp2
          refine bodyPost_ret (v := .tuple #[.int .i64 ((su - su % (k : Int)) / (k : Int) + ev), .int .i64 0]) (by simp [results, Try.results6, go_sem]) rfl ?_
          exact exp_goes ⟨HF2.out.2, by rw [HQ.out, HF2.out.1]⟩ (below_drewN (Below.refl _ _) d')
end Go.Proofs.Ytldfppcdklnmlae
