/- root.Power, walked. -/
import Derived.Test.YtoemnfjodhbbgadRootP
import Derived.Test.YtoemnfjodhbbgadTimes
import Derived.Test.YtoemnfjodhbbgadDivC
namespace Go.Proofs.Ytoemnfjodhbbgad
open Go.RowKit
set_option linter.unusedSimpArgs false
set_option linter.unusedVariables false

theorem results_1c {fn : Func} {a : Act} {W : World} {g p q : Nat} {x0 x1 e : Value} (h : fn.results = #[.cell p 24, .tmp q]) (h4 : a.tmps.getD p undef = .pointer (some ⟨g, 0, none⟩)) (h6 : a.tmps.getD q undef = e)
    (c0 : W.cell? ⟨g, 0, none⟩ = some x0) (c1 : W.cell? ⟨g, 1, none⟩ = some x1) : (results fn a.tmps).run Try.prog W = .ok (.tuple #[.agg #[x0, x1], e]) W := by
  have h4' : a.tmps[p]?.getD undef = .pointer (some ⟨g, 0, none⟩) := by simpa using h4
  have h6' : a.tmps[q]?.getD undef = e := by simpa using h6
  simp [results, h, h4', h6', go_sem, c0, c1]

set_option maxHeartbeats 1000000 in
theorem power_bad (a : Nat) (n : Int) (h : n < 0 ∨ 127 < n) (w : World) :
    Calls Try.prog 4 #[.agg #[.int .u64 (hiN a), .int .u64 (loN a)], .int .i64 n] w fun e w' => e = .returned (.tuple #[.agg #[.int .u64 0, .int .u64 0], .int .i64 1]) ∧ Below w.heap.size w w' := by
  have E := Lib.hid (((Env.start w).lay #[.int .u64 (hiN a), .int .u64 (loN a)] 24).lay #[.int .u64 0, .int .u64 0] 24)
  generalize hiN a = ah at *
  generalize loN a = al at *
  rcases h with h | h
  · go_enter Try.func4, Try.ntmps4
    go_wp2
    refine bodyPost_ret (v := .tuple #[.agg #[.int .u64 0, .int .u64 0], .int .i64 1]) (by simp [results, Try.results4, go_sem]) rfl ⟨rfl, ?_⟩
    first | exact E.out.bel | exact (E.out.bel.setCell (by simp <;> omega) _).setCell (by simp <;> omega) _
  · have h0 : ¬ n < 0 := by omega
    go_enter Try.func4, Try.ntmps4
    go_wp2
    refine bodyPost_ret (v := .tuple #[.agg #[.int .u64 0, .int .u64 0], .int .i64 1]) (by simp [results, Try.results4, go_sem]) rfl ⟨rfl, ?_⟩
    first | exact E.out.bel | exact (E.out.bel.setCell (by simp <;> omega) _).setCell (by simp <;> omega) _

set_option maxHeartbeats 4000000 in
set_option maxRecDepth 100000 in
theorem power_ok (a n : Nat) (ha : a < 2 ^ 128) (hn : n ≤ 127) (w : World) :
    Calls Try.prog 4 #[.agg #[.int .u64 (hiN a), .int .u64 (loN a)], .int .i64 (n : Int)] w fun e w' =>
      e = .returned (.tuple #[.agg #[.int .u64 (hiN (fitN (a ^ n))), .int .u64 (loN (fitN (a ^ n)))], .int .i64 (fitE (a ^ n))]) ∧ Below w.heap.size w w' := by
  have HT := Lib.hid (fun o ho w => times_any o a ho ha w)
  have E := Lib.hid ((((Env.start w).lay #[.int .u64 (hiN a), .int .u64 (loN a)] 24).lay #[.int .u64 0, .int .u64 0] 24).lay #[.int .u64 0, .int .u64 1] 24)
  simp only [World.size_alloc] at E
  generalize hiN a = ah at *
  generalize loN a = al at *
  clear ha
  go_enter Try.func4, Try.ntmps4
  go_wp2
  go_loopw [1] (fun v wr => ∃ j : Nat, j ≤ n ∧ v = .int .i64 ((n - j : Nat) : Int) ∧ a ^ j < 2 ^ 128 ∧ Env w wr [(w.heap.size + 1 + 1, 24, #[.int .u64 (hiN (a ^ j)), .int .u64 (loN (a ^ j))]), (w.heap.size + 1, 24, #[.int .u64 0, .int .u64 0]), (w.heap.size, 24, #[.int .u64 ah, .int .u64 al])]) (fun v _ => (intOf v).toNat)
  case atStart => exact ⟨0, by omega, by simp, by rw [Nat.pow_zero]; decide, by simpa [hiN, loN] using E.out⟩
  case round =>
    obtain ⟨j, hj, rfl, hp, hE⟩ := hrel
    have F := Lib.hid hE
    clear hE E
    by_cases hlt : j < n
    · have HM := Lib.hid (HT.out (a ^ j) hp)
      rw [← Nat.pow_succ] at HM
      have HP := Lib.hid hp
      have hnj : ((n - j : Nat) : Int) = (n : Int) - j := by omega
      rw [hnj]
      have hpos : 0 < (n : Int) - j := by omega
      have hnb : (n : Int) - j ≤ 127 := by omega
      clear hp hnj
      have p0 := F.out.hd.lt
      have x0 := F.out.hd.cell 0
      have x1 := F.out.hd.cell 1
      have a0 := F.out.tl.tl.hd.cell 0
      have a1 := F.out.tl.tl.hd.cell 1
      simp at x0 x1 a0 a1
      generalize hiN (a ^ j) = oh at *
      generalize loN (a ^ j) = ol at *
      go_wp2_with fail
      refine (HM.out _).mono ?_
      rintro e' w1 ⟨rfl, hb1⟩
      have F1 := Lib.hid (F.out.below hb1)
      clear hb1 p0 x0 x1 a0 a1 F
      have p0 := F1.out.hd.lt
      have x0 := F1.out.hd.cell 0
      have x1 := F1.out.hd.cell 1
      have f0 := F1.out.hd.frozen 0
      have f1 := F1.out.hd.frozen 1
      have r0 := F1.out.tl.hd.cell 0
      have r1 := F1.out.tl.hd.cell 1
      have g0 := F1.out.tl.hd.frozen 0
      have g1 := F1.out.tl.hd.frozen 1
      simp at x0 x1 f0 f1 r0 r1 g0 g1
      by_cases hfit : a ^ (j + 1) < 2 ^ 128
      · rw [show fitN (a ^ (j + 1)) = a ^ (j + 1) from if_pos hfit, show fitE (a ^ (j + 1)) = 0 from if_pos hfit]
        have HF := Lib.hid hfit
        have F2 := Lib.hid (dsetHd (dsetHd F1.out (by simp; omega) 0 (.int .u64 (hiN (a ^ (j + 1))))) (by simp; omega) 1 (.int .u64 (loN (a ^ (j + 1)))))
        clear hfit
        generalize hh1 : hiN (a ^ (j + 1)) = h1 at *
        generalize hh2 : loN (a ^ (j + 1)) = l1 at *
        have HH1 := Lib.hid hh1
        have HH2 := Lib.hid hh2
        clear hh1 hh2
        go_wp2
        go_roundw
        case rel => exact ⟨j + 1, hlt, by rw [show ((n - (j + 1) : Nat) : Int) = (n : Int) - j - 1 by omega], HF.out, by rw [HH1.out, HH2.out]; exact F2.out⟩
        case measure => simp [intOf]; omega
      · have HBIG := Lib.hid (show fitN (a ^ n) = 0 ∧ fitE (a ^ n) = 2 by
          have := Rt.pow_big (a := a) (i := j + 1) (n := n) (by omega) hlt
          exact ⟨if_neg (by omega), if_neg (by omega)⟩)
        rw [show fitN (a ^ (j + 1)) = 0 from if_neg hfit, show fitE (a ^ (j + 1)) = 2 from if_neg hfit, show hiN 0 = 0 from rfl, show loN 0 = 0 from rfl]
        clear hfit
        have B1 := (((F1.out.tl.hd.far (p := ⟨w.heap.size + 1 + 1, 0, none⟩) (by simp) (.int .u64 0)).far (p := ⟨w.heap.size + 1 + 1, 1, none⟩) (by simp) (.int .u64 0)).set_ 0 (.int .u64 0)).set_ 1 (.int .u64 0)
        have HB1 := Lib.hid B1
        clear B1
        go_wp2
        refine bodyPost_ret (v := .tuple #[.agg #[.int .u64 0, .int .u64 0], .int .i64 2]) (results_1c Try.results4 rfl rfl (HB1.out.cell_eq' rfl) (HB1.out.cell_eq' rfl)) rfl ⟨?_, ?_⟩
        · rw [HBIG.out.1, HBIG.out.2]; rfl
        · exact (((F1.out.bel.setCell (by simp <;> omega) _).setCell (by simp <;> omega) _).setCell (by simp <;> omega) _).setCell (by simp <;> omega) _
    · have hnj : n - j = 0 := by omega
      rw [hnj]
      have HJ := Lib.hid (show a ^ j = a ^ n by rw [show j = n by omega])
      have HP := Lib.hid (show fitN (a ^ n) = a ^ j ∧ fitE (a ^ n) = 0 by rw [← HJ.out]; exact ⟨if_pos hp, if_pos hp⟩)
      clear hnj hp hlt
      have x0 := F.out.hd.cell 0
      have x1 := F.out.hd.cell 1
      have r0 := F.out.tl.hd.cell 0
      have r1 := F.out.tl.hd.cell 1
      have g0 := F.out.tl.hd.frozen 0
      have g1 := F.out.tl.hd.frozen 1
      simp at x0 x1 r0 r1 g0 g1
      generalize hh1 : hiN (a ^ j) = h1 at *
      generalize hh2 : loN (a ^ j) = l1 at *
      have HH1 := Lib.hid hh1
      have HH2 := Lib.hid hh2
      clear hh1 hh2
      have HB1 := Lib.hid ((F.out.tl.hd.set_ 0 (.int .u64 h1)).set_ 1 (.int .u64 l1))
      go_wp2
      refine bodyPost_ret (v := .tuple #[.agg #[.int .u64 h1, .int .u64 l1], .int .i64 0]) (results_1c Try.results4 rfl rfl (HB1.out.cell_eq' rfl) (HB1.out.cell_eq' rfl)) rfl ⟨?_, ?_⟩
      · rw [HP.out.1, HP.out.2, HH1.out, HH2.out]
      · exact (F.out.bel.setCell (by simp <;> omega) _).setCell (by simp <;> omega) _
end Go.Proofs.Ytoemnfjodhbbgad
