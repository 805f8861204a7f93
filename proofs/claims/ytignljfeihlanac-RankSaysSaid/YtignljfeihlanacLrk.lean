/- The law RankSays, walked. -/
import Derived.Test.YtignljfeihlanacRankB
import Derived.Test.YtignljfeihlanacSorted
import Derived.Test.YtignljfeihlanacEqI
import Derived.Deep.DeepCutAuto
namespace Go.Proofs.Ytignljfeihlanac
open Go.RowKit
set_option linter.unusedSimpArgs false
set_option linter.unusedVariables false

theorem sort21 : So.IsSort [2, 1] [1, 2] := ⟨by decide, List.Perm.swap 2 1 []⟩
theorem rk_rlist (A : Option Addr) (c B : Nat) (l : List Int) (n : Nat) (hn : l.length = n) (e : Int) (h : listE l = e) (hm : n ≤ maxLen) (w : World) (hr : Reads w B 1 A n (cellsI l)) :
    Calls Try.prog 7 #[.slice A n c] w fun e' w' => e' = .returned (.int .i64 e) ∧ w = w' := by
  subst hn h; exact rlist_any A c B l hm w hr
theorem Below.al3 {b : Nat} {w W : World} {o : Obj} (hb : b ≤ w.heap.size) (h : Below b w W) : Below b w (W.alloc o) := h.alloc (Nat.le_trans hb h.size) _

set_option maxHeartbeats 2000000 in
theorem rk_err (A : Option Addr) (c n : Nat) (l : List Int) (num den x : Int) (hn : l.length = n) (e : Int) (he : listE l = e) (hz : e ≠ 0) (hm : n ≤ maxLen) (w : World) (hr : Reads w w.heap.size 1 A n (cellsI l)) :
    Calls Try.prog 3 #[.slice A n c, .int .i64 num, .int .i64 den, .int .i64 x] w fun e' w' => e' = .returned (.bool true) ∧ Below w.heap.size w w' := by
  have HN := Lib.hid hn
  have HE := Lib.hid he
  have HR := Lib.hid hr
  clear hn he hr
  go_enter Try.func3, Try.ntmps3
  go_wp2_with fail
  refine (rsort_err _ _ _ _ _ HN.out _ HE.out hz hm _ HR.out).mono ?_
  rintro e' w' ⟨rfl, rfl⟩
  go_wp2_with fail
  refine (rrank_err _ _ _ _ _ _ _ HN.out _ HE.out hz hm _ HR.out).mono ?_
  rintro e' w' ⟨rfl, rfl⟩
  go_wp2_with fail
  refine (rfar_err _ _ _ _ _ _ HN.out _ HE.out hz hm _ HR.out).mono ?_
  rintro e' w' ⟨rfl, rfl⟩
  go_wp2_with fail
  refine (rk_rlist _ _ _ _ _ HN.out _ HE.out hm _ HR.out).mono ?_
  rintro e' w' ⟨rfl, rfl⟩
  go_wp2
  go_ret
  exact ⟨rfl, Below.refl _ _⟩

set_option maxHeartbeats 4000000 in
set_option maxRecDepth 100000 in
theorem rk_bad_bad (A : Option Addr) (c n : Nat) (l T : List Int) (hT : So.IsSort l T) (hn : l.length = n) (he : listE l = 0) (num den : Int) (hbad : den < 1 ∨ 1000 < den ∨ num < 0 ∨ den < num) (x : Int) (hx : wi x 0 16777216 = false) (w : World) (hr : Reads w w.heap.size 1 A n (cellsI l)) :
    Calls Try.prog 3 #[.slice A n c, .int .i64 num, .int .i64 den, .int .i64 x] w fun e' w' => e' = .returned (.bool true) ∧ Below w.heap.size w w' := by
  have h64 : n ≤ 64 := by rw [← hn]; exact (listE_zero he).1
  have hm : n ≤ maxLen := by unfold maxLen; omega
  have HTL := Lib.hid (show T.length = n by rw [hT.2.length_eq, hn])
  have HN := Lib.hid hn
  have HE := Lib.hid he
  have HR := Lib.hid hr
  have HT := Lib.hid hT
  have HX := Lib.hid hx
  have HP := Lib.hid (show partB num den = false by
    unfold partB
    rw [Bool.and_eq_false_iff]
    rcases hbad with h | h | h | h
    · exact .inl (wi_false.2 (.inl h))
    · exact .inl (wi_false.2 (.inr h))
    · exact .inr (wi_false.2 (.inl h))
    · exact .inr (wi_false.2 (.inr h)))
  clear hn he hr hT hx
  go_enter Try.func3, Try.ntmps3
  go_wp2_with fail
  refine (rsort_ok _ _ _ _ _ _ HT.out HN.out HE.out hm _ HR.out (Nat.le_refl _)).mono ?_
  rintro e' w1 ⟨A1, c1, rfl, hown1, hb1⟩
  have X1 := Lib.hid (Reads.of_own hown1)
  have B1 := Lib.hid hb1
  clear hown1 hb1
  go_wp2_with fail
  refine (rrank_arg _ _ _ _ _ _ _ hbad HN.out HE.out hm _ (HR.out.below B1.out (Nat.le_refl _))).mono ?_
  rintro e' w' ⟨rfl, rfl⟩
  have B2 := B1
  have C2 := Lib.hid (Below.refl w1.heap.size w1)
  go_wp2_with fail
  refine (rfar_arg _ _ _ _ _ _ HX.out HN.out HE.out hm _ (HR.out.below B2.out (Nat.le_refl _))).mono ?_
  rintro e' w' ⟨rfl, rfl⟩
  go_wp2_with fail
  refine (rk_rlist _ _ _ _ _ HN.out _ HE.out hm _ (HR.out.below B2.out (Nat.le_refl _))).mono ?_
  rintro e' w' ⟨rfl, rfl⟩
  go_wp2_with fail
  refine (rsort_ok _ _ (w1.heap.size + 1) 2 [2, 1] [1, 2] sort21 rfl (by decide) (by unfold maxLen; omega) _ ((reads_blk (Blk.new _ _ _) rfl).more (by simp)) (by simp)).mono ?_
  rintro e' w3 ⟨A3, c3, rfl, hown3, hb3⟩
  have X3 := Lib.hid (Reads.of_own hown3)
  have D3 := Lib.hid (Below.trans ((Below.refl _ w1).alloc (Nat.le_refl _) _) (hb3.mono (by simp)))
  have B3 := Lib.hid (B2.out.trans (D3.out.mono B2.out.size))
  have C3 := Lib.hid (C2.out.trans (D3.out.mono C2.out.size))
  clear hown3 hb3
  go_wp2_with fail
  refine (eqints_is _ _ _ _ (w3.heap.size + 1) 2 2 [1, 2] [1, 2] rfl rfl true rfl (by omega) (by omega) _ ((X3.out.alloc (Nat.le_refl _) _).more (by omega)) ((reads_blk (Blk.new _ _ _) rfl).more (by simp))).mono ?_
  rintro e' w4 ⟨rfl, hb4⟩
  have D4 := Lib.hid (Below.trans ((Below.refl _ w3).alloc (Nat.le_refl _) _) (hb4.mono (by simp)))
  have B4 := Lib.hid (B3.out.trans (D4.out.mono B3.out.size))
  have C4 := Lib.hid (C3.out.trans (D4.out.mono C3.out.size))
  clear hb4
  go_wp2_with fail
  refine (rsorted_any _ _ _ _ _ HT.out HN.out (by omega) _ ((HR.out.below B4.out (Nat.le_refl _)).more B4.out.size)).mono ?_
  rintro e' w5 ⟨A5, rfl, hrd5, hb5⟩
  have X5 := Lib.hid hrd5
  have B5 := Lib.hid (B4.out.trans (hb5.mono B4.out.size))
  have C5 := Lib.hid (C4.out.trans (hb5.mono C4.out.size))
  clear hrd5 hb5
  go_wp2_with fail
  refine (eqints_is _ _ _ _ w5.heap.size _ _ T T HTL.out HTL.out true (by simp) (by omega) (by omega) _ ((X1.out.below C5.out (Nat.le_refl _)).more C5.out.size) X5.out).mono ?_
  rintro e' w6 ⟨rfl, hb6⟩
  have X6 := Lib.hid (X5.out.below hb6 (Nat.le_refl _))
  have B6 := Lib.hid (B5.out.trans (hb6.mono B5.out.size))
  clear hb6 X5 C5 B5 C4 B4 D4 B3 C3 D3 X3 B2 C2 X1
  go_wp2_with fail
  refine (rkpart_any _ _ _).mono ?_
  rw [HP.out]
  rintro e' w' ⟨rfl, rfl⟩
  go_wp2_with fail
  refine (lrval_any _ _).mono ?_
  rw [HX.out]
  rintro e' w' ⟨rfl, rfl⟩
  go_wp2
  all_goals first
    | (exfalso; omega)
    | (go_ret; exact ⟨rfl, B6.out⟩)

set_option maxHeartbeats 4000000 in
set_option maxRecDepth 100000 in
theorem rk_bad_ok (A : Option Addr) (c n : Nat) (l T : List Int) (hT : So.IsSort l T) (hn : l.length = n) (he : listE l = 0) (num den : Int) (hbad : den < 1 ∨ 1000 < den ∨ num < 0 ∨ den < num) (x : Int) (hx : wi x 0 16777216 = true) (w : World) (hr : Reads w w.heap.size 1 A n (cellsI l)) :
    Calls Try.prog 3 #[.slice A n c, .int .i64 num, .int .i64 den, .int .i64 x] w fun e' w' => e' = .returned (.bool true) ∧ Below w.heap.size w w' := by
  have h64 : n ≤ 64 := by rw [← hn]; exact (listE_zero he).1
  have hm : n ≤ maxLen := by unfold maxLen; omega
  have HTL := Lib.hid (show T.length = n by rw [hT.2.length_eq, hn])
  have HN := Lib.hid hn
  have HE := Lib.hid he
  have HR := Lib.hid hr
  have HT := Lib.hid hT
  have HX := Lib.hid hx
  have HP := Lib.hid (show partB num den = false by
    unfold partB
    rw [Bool.and_eq_false_iff]
    rcases hbad with h | h | h | h
    · exact .inl (wi_false.2 (.inl h))
    · exact .inl (wi_false.2 (.inr h))
    · exact .inr (wi_false.2 (.inl h))
    · exact .inr (wi_false.2 (.inr h)))
  obtain ⟨hx0, hx1⟩ := wi_true.1 hx
  have HO := Lib.hid (listE_zero he).2
  obtain ⟨fx, hfx⟩ : ∃ fx, farL x l = fx := ⟨_, rfl⟩
  have HFX := Lib.hid hfx
  clear hfx
  clear hn he hr hT hx
  go_enter Try.func3, Try.ntmps3
  go_wp2_with fail
  refine (rsort_ok _ _ _ _ _ _ HT.out HN.out HE.out hm _ HR.out (Nat.le_refl _)).mono ?_
  rintro e' w1 ⟨A1, c1, rfl, hown1, hb1⟩
  have X1 := Lib.hid (Reads.of_own hown1)
  have B1 := Lib.hid hb1
  clear hown1 hb1
  go_wp2_with fail
  refine (rrank_arg _ _ _ _ _ _ _ hbad HN.out HE.out hm _ (HR.out.below B1.out (Nat.le_refl _))).mono ?_
  rintro e' w' ⟨rfl, rfl⟩
  have B2 := B1
  have C2 := Lib.hid (Below.refl w1.heap.size w1)
  go_wp2_with fail
  refine (rfar_ok _ _ _ _ _ _ HX.out HN.out HE.out _ (HR.out.below B2.out (Nat.le_refl _))).mono ?_
  rw [HFX.out]
  rintro e' w' ⟨rfl, rfl⟩
  go_wp2_with fail
  refine (rk_rlist _ _ _ _ _ HN.out _ HE.out hm _ (HR.out.below B2.out (Nat.le_refl _))).mono ?_
  rintro e' w' ⟨rfl, rfl⟩
  go_wp2_with fail
  refine (rsort_ok _ _ (w1.heap.size + 1) 2 [2, 1] [1, 2] sort21 rfl (by decide) (by unfold maxLen; omega) _ ((reads_blk (Blk.new _ _ _) rfl).more (by simp)) (by simp)).mono ?_
  rintro e' w3 ⟨A3, c3, rfl, hown3, hb3⟩
  have X3 := Lib.hid (Reads.of_own hown3)
  have D3 := Lib.hid (Below.trans ((Below.refl _ w1).alloc (Nat.le_refl _) _) (hb3.mono (by simp)))
  have B3 := Lib.hid (B2.out.trans (D3.out.mono B2.out.size))
  have C3 := Lib.hid (C2.out.trans (D3.out.mono C2.out.size))
  clear hown3 hb3
  go_wp2_with fail
  refine (eqints_is _ _ _ _ (w3.heap.size + 1) 2 2 [1, 2] [1, 2] rfl rfl true rfl (by omega) (by omega) _ ((X3.out.alloc (Nat.le_refl _) _).more (by omega)) ((reads_blk (Blk.new _ _ _) rfl).more (by simp))).mono ?_
  rintro e' w4 ⟨rfl, hb4⟩
  have D4 := Lib.hid (Below.trans ((Below.refl _ w3).alloc (Nat.le_refl _) _) (hb4.mono (by simp)))
  have B4 := Lib.hid (B3.out.trans (D4.out.mono B3.out.size))
  have C4 := Lib.hid (C3.out.trans (D4.out.mono C3.out.size))
  clear hb4
  go_wp2_with fail
  refine (rsorted_any _ _ _ _ _ HT.out HN.out (by omega) _ ((HR.out.below B4.out (Nat.le_refl _)).more B4.out.size)).mono ?_
  rintro e' w5 ⟨A5, rfl, hrd5, hb5⟩
  have X5 := Lib.hid hrd5
  have B5 := Lib.hid (B4.out.trans (hb5.mono B4.out.size))
  have C5 := Lib.hid (C4.out.trans (hb5.mono C4.out.size))
  clear hrd5 hb5
  go_wp2_with fail
  refine (eqints_is _ _ _ _ w5.heap.size _ _ T T HTL.out HTL.out true (by simp) (by omega) (by omega) _ ((X1.out.below C5.out (Nat.le_refl _)).more C5.out.size) X5.out).mono ?_
  rintro e' w6 ⟨rfl, hb6⟩
  have X6 := Lib.hid (X5.out.below hb6 (Nat.le_refl _))
  have B6 := Lib.hid (B5.out.trans (hb6.mono B5.out.size))
  clear hb6 X5 C5 B5 C4 B4 D4 B3 C3 D3 X3 B2 C2 X1
  go_wp2_with fail
  refine (rkpart_any _ _ _).mono ?_
  rw [HP.out]
  rintro e' w' ⟨rfl, rfl⟩
  go_wp2_with fail
  refine (lrval_any _ _).mono ?_
  rw [HX.out]
  rintro e' w' ⟨rfl, rfl⟩
  go_wp2_with fail
  go_loopw [19, 141] (fun cv kv wr => ∃ k : Nat, k ≤ n ∧ cv = .int .i64 (farT x l k) ∧ kv = .int .i64 (k : Int) ∧ wr = w6) (fun _ kv _ => n - (intOf kv).toNat)
  case atStart => exact ⟨0, by omega, by simp [farT, farL], rfl, rfl⟩
  case round =>
    obtain ⟨j, hj, rfl, rfl, rfl⟩ := hrel
    obtain ⟨d0, d1⟩ := farT_bd x hx0 hx1 l HO.out j (by omega)
    by_cases hlt : j < n
    · obtain ⟨b, off, rfl, hb, hcells⟩ := (HR.out.below B6.out (Nat.le_refl _)).addr (by omega)
      have hcell := hcells j _ (cellsI_at l j (by rw [HN.out]; exact hlt))
      obtain ⟨hst, v0, v1⟩ := farT_step x hx0 hx1 l HO.out j (by rw [HN.out]; exact hlt)
      have HB := Lib.hid hb
      obtain ⟨c2, hc2⟩ : ∃ c2, c2 = farT x l (j + 1) := ⟨_, rfl⟩
      rw [← hc2] at hst
      have HC2 := Lib.hid hc2
      have HST := Lib.hid hst
      clear hcells hb hst hc2
      generalize l.getD j 0 = v at *
      generalize farT x l j = c1 at *
      by_cases h1 : x < v
      · have e := HST.out
        rw [if_pos h1] at e
        subst e
        go_wp2
        go_roundw
        case rel => exact ⟨j + 1, by omega, by rw [← HC2.out], by simp, by first | rfl | trivial⟩
        case measure => simp [intOf]; omega
      · have e := HST.out
        rw [if_neg h1] at e
        subst e
        go_wp2
        go_roundw
        case rel => exact ⟨j + 1, by omega, by rw [← HC2.out], by simp, by first | rfl | trivial⟩
        case measure => simp [intOf]; omega
    · have hkn : j = n := by omega
      subst hkn
      have HL := Lib.hid (farT_all x l _ HN.out)
      have e := HL.out.trans HFX.out
      rw [e]
      clear e
      go_wp2
      go_ret
      exact ⟨rfl, B6.out⟩

set_option maxHeartbeats 4000000 in
set_option maxRecDepth 100000 in
theorem rk_none_bad (A : Option Addr) (c : Nat) (num den : Int) (hd0 : 1 ≤ den) (hd1 : den ≤ 1000) (hm0 : 0 ≤ num) (hm1 : num ≤ den) (x : Int) (hx : wi x 0 16777216 = false) (w : World) :
    Calls Try.prog 3 #[.slice A 0 c, .int .i64 num, .int .i64 den, .int .i64 x] w fun e' w' => e' = .returned (.bool true) ∧ Below w.heap.size w w' := by
  have hn : ([] : List Int).length = 0 := rfl
  have he : listE [] = 0 := rfl
  have hr : Reads w w.heap.size 1 A 0 (cellsI []) := ⟨rfl, fun h => absurd h (by omega)⟩
  obtain ⟨l, hl⟩ : ∃ l : List Int, l = [] := ⟨_, rfl⟩
  obtain ⟨T, hTl⟩ : ∃ l : List Int, l = [] := ⟨_, rfl⟩
  rw [← hl] at hn he hr
  have hT : So.IsSort l T := by rw [hl, hTl]; exact ⟨List.Pairwise.nil, List.Perm.refl _⟩
  clear hl hTl
  have h64 : 0 ≤ 64 := by rw [← hn]; exact (listE_zero he).1
  have hm : 0 ≤ maxLen := by unfold maxLen; omega
  have HTL := Lib.hid (show T.length = 0 by rw [hT.2.length_eq, hn])
  have HN := Lib.hid hn
  have HE := Lib.hid he
  have HR := Lib.hid hr
  have HT := Lib.hid hT
  have HX := Lib.hid hx
  have HP := Lib.hid (show partB num den = true by unfold partB; rw [Bool.and_eq_true]; exact ⟨wi_true.2 (by omega), wi_true.2 (by omega)⟩)
  clear hn he hr hT hx
  go_enter Try.func3, Try.ntmps3
  go_wp2_with fail
  refine (rsort_ok _ _ _ _ _ _ HT.out HN.out HE.out hm _ HR.out (Nat.le_refl _)).mono ?_
  rintro e' w1 ⟨A1, c1, rfl, hown1, hb1⟩
  have X1 := Lib.hid (Reads.of_own hown1)
  have B1 := Lib.hid hb1
  clear hown1 hb1
  go_wp2_with fail
  refine (rrank_none _ _ _ _ hd0 hd1 hm0 hm1 _).mono ?_
  rintro e' w' ⟨rfl, rfl⟩
  have B2 := B1
  have C2 := Lib.hid (Below.refl w1.heap.size w1)
  go_wp2_with fail
  refine (rfar_arg _ _ _ _ _ _ HX.out HN.out HE.out hm _ (HR.out.below B2.out (Nat.le_refl _))).mono ?_
  rintro e' w' ⟨rfl, rfl⟩
  go_wp2_with fail
  refine (rk_rlist _ _ _ _ _ HN.out _ HE.out hm _ (HR.out.below B2.out (Nat.le_refl _))).mono ?_
  rintro e' w' ⟨rfl, rfl⟩
  go_wp2_with fail
  refine (rsort_ok _ _ (w1.heap.size + 1) 2 [2, 1] [1, 2] sort21 rfl (by decide) (by unfold maxLen; omega) _ ((reads_blk (Blk.new _ _ _) rfl).more (by simp)) (by simp)).mono ?_
  rintro e' w3 ⟨A3, c3, rfl, hown3, hb3⟩
  have X3 := Lib.hid (Reads.of_own hown3)
  have D3 := Lib.hid (Below.trans ((Below.refl _ w1).alloc (Nat.le_refl _) _) (hb3.mono (by simp)))
  have B3 := Lib.hid (B2.out.trans (D3.out.mono B2.out.size))
  have C3 := Lib.hid (C2.out.trans (D3.out.mono C2.out.size))
  clear hown3 hb3
  go_wp2_with fail
  refine (eqints_is _ _ _ _ (w3.heap.size + 1) 2 2 [1, 2] [1, 2] rfl rfl true rfl (by omega) (by omega) _ ((X3.out.alloc (Nat.le_refl _) _).more (by omega)) ((reads_blk (Blk.new _ _ _) rfl).more (by simp))).mono ?_
  rintro e' w4 ⟨rfl, hb4⟩
  have D4 := Lib.hid (Below.trans ((Below.refl _ w3).alloc (Nat.le_refl _) _) (hb4.mono (by simp)))
  have B4 := Lib.hid (B3.out.trans (D4.out.mono B3.out.size))
  have C4 := Lib.hid (C3.out.trans (D4.out.mono C3.out.size))
  clear hb4
  go_wp2_with fail
  refine (rsorted_any _ _ _ _ _ HT.out HN.out (by omega) _ ((HR.out.below B4.out (Nat.le_refl _)).more B4.out.size)).mono ?_
  rintro e' w5 ⟨A5, rfl, hrd5, hb5⟩
  have X5 := Lib.hid hrd5
  have B5 := Lib.hid (B4.out.trans (hb5.mono B4.out.size))
  have C5 := Lib.hid (C4.out.trans (hb5.mono C4.out.size))
  clear hrd5 hb5
  go_wp2_with fail
  refine (eqints_is _ _ _ _ w5.heap.size _ _ T T HTL.out HTL.out true (by simp) (by omega) (by omega) _ ((X1.out.below C5.out (Nat.le_refl _)).more C5.out.size) X5.out).mono ?_
  rintro e' w6 ⟨rfl, hb6⟩
  have X6 := Lib.hid (X5.out.below hb6 (Nat.le_refl _))
  have B6 := Lib.hid (B5.out.trans (hb6.mono B5.out.size))
  clear hb6 X5 C5 B5 C4 B4 D4 B3 C3 D3 X3 B2 C2 X1
  go_wp2_with fail
  refine (rkpart_any _ _ _).mono ?_
  rw [HP.out]
  rintro e' w' ⟨rfl, rfl⟩
  go_wp2_with fail
  refine (lrval_any _ _).mono ?_
  rw [HX.out]
  rintro e' w' ⟨rfl, rfl⟩
  go_wp2
  all_goals first
    | (exfalso; omega)
    | (go_ret; exact ⟨rfl, B6.out⟩)

set_option maxHeartbeats 4000000 in
set_option maxRecDepth 100000 in
theorem rk_none_ok (A : Option Addr) (c : Nat) (num den : Int) (hd0 : 1 ≤ den) (hd1 : den ≤ 1000) (hm0 : 0 ≤ num) (hm1 : num ≤ den) (x : Int) (hx : wi x 0 16777216 = true) (w : World) :
    Calls Try.prog 3 #[.slice A 0 c, .int .i64 num, .int .i64 den, .int .i64 x] w fun e' w' => e' = .returned (.bool true) ∧ Below w.heap.size w w' := by
  have hn : ([] : List Int).length = 0 := rfl
  have he : listE [] = 0 := rfl
  have hr : Reads w w.heap.size 1 A 0 (cellsI []) := ⟨rfl, fun h => absurd h (by omega)⟩
  obtain ⟨l, hl⟩ : ∃ l : List Int, l = [] := ⟨_, rfl⟩
  obtain ⟨T, hTl⟩ : ∃ l : List Int, l = [] := ⟨_, rfl⟩
  rw [← hl] at hn he hr
  have hT : So.IsSort l T := by rw [hl, hTl]; exact ⟨List.Pairwise.nil, List.Perm.refl _⟩
  clear hl hTl
  have h64 : 0 ≤ 64 := by rw [← hn]; exact (listE_zero he).1
  have hm : 0 ≤ maxLen := by unfold maxLen; omega
  have HTL := Lib.hid (show T.length = 0 by rw [hT.2.length_eq, hn])
  have HN := Lib.hid hn
  have HE := Lib.hid he
  have HR := Lib.hid hr
  have HT := Lib.hid hT
  have HX := Lib.hid hx
  have HP := Lib.hid (show partB num den = true by unfold partB; rw [Bool.and_eq_true]; exact ⟨wi_true.2 (by omega), wi_true.2 (by omega)⟩)
  obtain ⟨hx0, hx1⟩ := wi_true.1 hx
  have HO := Lib.hid (listE_zero he).2
  obtain ⟨fx, hfx⟩ : ∃ fx, farL x l = fx := ⟨_, rfl⟩
  have HFX := Lib.hid hfx
  clear hfx
  clear hn he hr hT hx
  go_enter Try.func3, Try.ntmps3
  go_wp2_with fail
  refine (rsort_ok _ _ _ _ _ _ HT.out HN.out HE.out hm _ HR.out (Nat.le_refl _)).mono ?_
  rintro e' w1 ⟨A1, c1, rfl, hown1, hb1⟩
  have X1 := Lib.hid (Reads.of_own hown1)
  have B1 := Lib.hid hb1
  clear hown1 hb1
  go_wp2_with fail
  refine (rrank_none _ _ _ _ hd0 hd1 hm0 hm1 _).mono ?_
  rintro e' w' ⟨rfl, rfl⟩
  have B2 := B1
  have C2 := Lib.hid (Below.refl w1.heap.size w1)
  go_wp2_with fail
  refine (rfar_ok _ _ _ _ _ _ HX.out HN.out HE.out _ (HR.out.below B2.out (Nat.le_refl _))).mono ?_
  rw [HFX.out]
  rintro e' w' ⟨rfl, rfl⟩
  go_wp2_with fail
  refine (rk_rlist _ _ _ _ _ HN.out _ HE.out hm _ (HR.out.below B2.out (Nat.le_refl _))).mono ?_
  rintro e' w' ⟨rfl, rfl⟩
  go_wp2_with fail
  refine (rsort_ok _ _ (w1.heap.size + 1) 2 [2, 1] [1, 2] sort21 rfl (by decide) (by unfold maxLen; omega) _ ((reads_blk (Blk.new _ _ _) rfl).more (by simp)) (by simp)).mono ?_
  rintro e' w3 ⟨A3, c3, rfl, hown3, hb3⟩
  have X3 := Lib.hid (Reads.of_own hown3)
  have D3 := Lib.hid (Below.trans ((Below.refl _ w1).alloc (Nat.le_refl _) _) (hb3.mono (by simp)))
  have B3 := Lib.hid (B2.out.trans (D3.out.mono B2.out.size))
  have C3 := Lib.hid (C2.out.trans (D3.out.mono C2.out.size))
  clear hown3 hb3
  go_wp2_with fail
  refine (eqints_is _ _ _ _ (w3.heap.size + 1) 2 2 [1, 2] [1, 2] rfl rfl true rfl (by omega) (by omega) _ ((X3.out.alloc (Nat.le_refl _) _).more (by omega)) ((reads_blk (Blk.new _ _ _) rfl).more (by simp))).mono ?_
  rintro e' w4 ⟨rfl, hb4⟩
  have D4 := Lib.hid (Below.trans ((Below.refl _ w3).alloc (Nat.le_refl _) _) (hb4.mono (by simp)))
  have B4 := Lib.hid (B3.out.trans (D4.out.mono B3.out.size))
  have C4 := Lib.hid (C3.out.trans (D4.out.mono C3.out.size))
  clear hb4
  go_wp2_with fail
  refine (rsorted_any _ _ _ _ _ HT.out HN.out (by omega) _ ((HR.out.below B4.out (Nat.le_refl _)).more B4.out.size)).mono ?_
  rintro e' w5 ⟨A5, rfl, hrd5, hb5⟩
  have X5 := Lib.hid hrd5
  have B5 := Lib.hid (B4.out.trans (hb5.mono B4.out.size))
  have C5 := Lib.hid (C4.out.trans (hb5.mono C4.out.size))
  clear hrd5 hb5
  go_wp2_with fail
  refine (eqints_is _ _ _ _ w5.heap.size _ _ T T HTL.out HTL.out true (by simp) (by omega) (by omega) _ ((X1.out.below C5.out (Nat.le_refl _)).more C5.out.size) X5.out).mono ?_
  rintro e' w6 ⟨rfl, hb6⟩
  have X6 := Lib.hid (X5.out.below hb6 (Nat.le_refl _))
  have B6 := Lib.hid (B5.out.trans (hb6.mono B5.out.size))
  clear hb6 X5 C5 B5 C4 B4 D4 B3 C3 D3 X3 B2 C2 X1
  go_wp2_with fail
  refine (rkpart_any _ _ _).mono ?_
  rw [HP.out]
  rintro e' w' ⟨rfl, rfl⟩
  go_wp2_with fail
  refine (lrval_any _ _).mono ?_
  rw [HX.out]
  rintro e' w' ⟨rfl, rfl⟩
  go_wp2_with fail
  go_loopw [19, 141] (fun cv kv wr => ∃ k : Nat, k ≤ 0 ∧ cv = .int .i64 (farT x l k) ∧ kv = .int .i64 (k : Int) ∧ wr = w6) (fun _ kv _ => 0 - (intOf kv).toNat)
  case atStart => exact ⟨0, by omega, by simp [farT, farL], rfl, rfl⟩
  case round =>
    obtain ⟨j, hj, rfl, rfl, rfl⟩ := hrel
    obtain ⟨d0, d1⟩ := farT_bd x hx0 hx1 l HO.out j (by omega)
    by_cases hlt : j < 0
    · exact absurd hlt (by omega)
    · have hkn : j = 0 := by omega
      subst hkn
      have HL := Lib.hid (farT_all x l _ HN.out)
      have e := HL.out.trans HFX.out
      rw [e]
      clear e
      go_wp2
      go_ret
      exact ⟨rfl, B6.out⟩

set_option maxHeartbeats 4000000 in
set_option maxRecDepth 100000 in
theorem rk_ok_bad (A : Option Addr) (c n : Nat) (l T : List Int) (hT : So.IsSort l T) (hn : l.length = n) (he : listE l = 0) (num den : Nat) (hn1 : 1 ≤ n) (hd0 : 1 ≤ den) (hd1 : den ≤ 1000) (hm1 : num ≤ den) (x : Int) (hx : wi x 0 16777216 = false) (w : World) (hr : Reads w w.heap.size 1 A n (cellsI l)) :
    Calls Try.prog 3 #[.slice A n c, .int .i64 num, .int .i64 den, .int .i64 x] w fun e' w' => e' = .returned (.bool true) ∧ Below w.heap.size w w' := by
  have h64 : n ≤ 64 := by rw [← hn]; exact (listE_zero he).1
  have hm : n ≤ maxLen := by unfold maxLen; omega
  have HTL := Lib.hid (show T.length = n by rw [hT.2.length_eq, hn])
  have HN := Lib.hid hn
  have HE := Lib.hid he
  have HR := Lib.hid hr
  have HT := Lib.hid hT
  have HX := Lib.hid hx
  have HP := Lib.hid (show partB num den = true by unfold partB; rw [Bool.and_eq_true]; exact ⟨wi_true.2 (by omega), wi_true.2 (by omega)⟩)
  obtain ⟨hk0, hk1⟩ := place_bd n num den hd0 hn1 hm1
  obtain ⟨k, hk⟩ : ∃ k, placeN (n * num) den = k := ⟨_, rfl⟩
  rw [hk] at hk0 hk1
  have HK := Lib.hid hk
  obtain ⟨y, hy⟩ : ∃ y, T.getD (k - 1) 0 = y := ⟨_, rfl⟩
  have HY := Lib.hid hy
  clear hk hy
  clear hn he hr hT hx
  go_enter Try.func3, Try.ntmps3
  go_wp2_with fail
  refine (rsort_ok _ _ _ _ _ _ HT.out HN.out HE.out hm _ HR.out (Nat.le_refl _)).mono ?_
  rintro e' w1 ⟨A1, c1, rfl, hown1, hb1⟩
  have X1 := Lib.hid (Reads.of_own hown1)
  have B1 := Lib.hid hb1
  clear hown1 hb1
  go_wp2_with fail
  refine (rrank_ok _ _ _ _ _ _ _ _ _ HT.out HN.out HE.out hn1 hd0 hd1 hm1 HK.out _ (HR.out.below B1.out (Nat.le_refl _)) B1.out.size).mono ?_
  rw [HY.out]
  rintro e' w2 ⟨rfl, hb2⟩
  have B2 := Lib.hid (B1.out.trans (hb2.mono B1.out.size))
  have C2 := Lib.hid (show Below w1.heap.size w1 w2 from hb2)
  clear hb2
  go_wp2_with fail
  refine (rfar_arg _ _ _ _ _ _ HX.out HN.out HE.out hm _ (HR.out.below B2.out (Nat.le_refl _))).mono ?_
  rintro e' w' ⟨rfl, rfl⟩
  go_wp2_with fail
  refine (rk_rlist _ _ _ _ _ HN.out _ HE.out hm _ (HR.out.below B2.out (Nat.le_refl _))).mono ?_
  rintro e' w' ⟨rfl, rfl⟩
  go_wp2_with fail
  refine (rsort_ok _ _ (w2.heap.size + 1) 2 [2, 1] [1, 2] sort21 rfl (by decide) (by unfold maxLen; omega) _ ((reads_blk (Blk.new _ _ _) rfl).more (by simp)) (by simp)).mono ?_
  rintro e' w3 ⟨A3, c3, rfl, hown3, hb3⟩
  have X3 := Lib.hid (Reads.of_own hown3)
  have D3 := Lib.hid (Below.trans ((Below.refl _ w2).alloc (Nat.le_refl _) _) (hb3.mono (by simp)))
  have B3 := Lib.hid (B2.out.trans (D3.out.mono B2.out.size))
  have C3 := Lib.hid (C2.out.trans (D3.out.mono C2.out.size))
  clear hown3 hb3
  go_wp2_with fail
  refine (eqints_is _ _ _ _ (w3.heap.size + 1) 2 2 [1, 2] [1, 2] rfl rfl true rfl (by omega) (by omega) _ ((X3.out.alloc (Nat.le_refl _) _).more (by omega)) ((reads_blk (Blk.new _ _ _) rfl).more (by simp))).mono ?_
  rintro e' w4 ⟨rfl, hb4⟩
  have D4 := Lib.hid (Below.trans ((Below.refl _ w3).alloc (Nat.le_refl _) _) (hb4.mono (by simp)))
  have B4 := Lib.hid (B3.out.trans (D4.out.mono B3.out.size))
  have C4 := Lib.hid (C3.out.trans (D4.out.mono C3.out.size))
  clear hb4
  go_wp2_with fail
  refine (rsorted_any _ _ _ _ _ HT.out HN.out (by omega) _ ((HR.out.below B4.out (Nat.le_refl _)).more B4.out.size)).mono ?_
  rintro e' w5 ⟨A5, rfl, hrd5, hb5⟩
  have X5 := Lib.hid hrd5
  have B5 := Lib.hid (B4.out.trans (hb5.mono B4.out.size))
  have C5 := Lib.hid (C4.out.trans (hb5.mono C4.out.size))
  clear hrd5 hb5
  go_wp2_with fail
  refine (eqints_is _ _ _ _ w5.heap.size _ _ T T HTL.out HTL.out true (by simp) (by omega) (by omega) _ ((X1.out.below C5.out (Nat.le_refl _)).more C5.out.size) X5.out).mono ?_
  rintro e' w6 ⟨rfl, hb6⟩
  have X6 := Lib.hid (X5.out.below hb6 (Nat.le_refl _))
  have B6 := Lib.hid (B5.out.trans (hb6.mono B5.out.size))
  clear hb6 X5 C5 B5 C4 B4 D4 B3 C3 D3 X3 B2 C2 X1
  go_wp2_with fail
  refine (rkpart_any _ _ _).mono ?_
  rw [HP.out]
  rintro e' w' ⟨rfl, rfl⟩
  obtain ⟨b6, off6, rfl, hb6, hcells⟩ := X6.out.addr (by omega)
  have hcell := hcells (k - 1) _ (cellsI_at T (k - 1) (by rw [HTL.out]; omega))
  rw [HY.out] at hcell
  have hi : (k : Int) - 1 = ((k - 1 : Nat) : Int) := by omega
  clear hcells
  go_wp2_with fail
  refine (rplace_any n num den h64 hm1 hd0 hd1 _).mono ?_
  rw [HK.out]
  rintro e' w' ⟨rfl, rfl⟩
  go_wp2_with fail
  refine (lrval_any _ _).mono ?_
  rw [HX.out]
  rintro e' w' ⟨rfl, rfl⟩
  go_wp2
  all_goals first
    | (exfalso; omega)
    | (go_ret; exact ⟨rfl, B6.out⟩)

set_option maxHeartbeats 4000000 in
set_option maxRecDepth 100000 in
theorem rk_ok_ok (A : Option Addr) (c n : Nat) (l T : List Int) (hT : So.IsSort l T) (hn : l.length = n) (he : listE l = 0) (num den : Nat) (hn1 : 1 ≤ n) (hd0 : 1 ≤ den) (hd1 : den ≤ 1000) (hm1 : num ≤ den) (x : Int) (hx : wi x 0 16777216 = true) (w : World) (hr : Reads w w.heap.size 1 A n (cellsI l)) :
    Calls Try.prog 3 #[.slice A n c, .int .i64 num, .int .i64 den, .int .i64 x] w fun e' w' => e' = .returned (.bool true) ∧ Below w.heap.size w w' := by
  have h64 : n ≤ 64 := by rw [← hn]; exact (listE_zero he).1
  have hm : n ≤ maxLen := by unfold maxLen; omega
  have HTL := Lib.hid (show T.length = n by rw [hT.2.length_eq, hn])
  have HN := Lib.hid hn
  have HE := Lib.hid he
  have HR := Lib.hid hr
  have HT := Lib.hid hT
  have HX := Lib.hid hx
  have HP := Lib.hid (show partB num den = true by unfold partB; rw [Bool.and_eq_true]; exact ⟨wi_true.2 (by omega), wi_true.2 (by omega)⟩)
  obtain ⟨hk0, hk1⟩ := place_bd n num den hd0 hn1 hm1
  obtain ⟨k, hk⟩ : ∃ k, placeN (n * num) den = k := ⟨_, rfl⟩
  rw [hk] at hk0 hk1
  have HK := Lib.hid hk
  obtain ⟨y, hy⟩ : ∃ y, T.getD (k - 1) 0 = y := ⟨_, rfl⟩
  have HY := Lib.hid hy
  clear hk hy
  obtain ⟨hx0, hx1⟩ := wi_true.1 hx
  have HO := Lib.hid (listE_zero he).2
  obtain ⟨fx, hfx⟩ : ∃ fx, farL x l = fx := ⟨_, rfl⟩
  have HFX := Lib.hid hfx
  clear hfx
  clear hn he hr hT hx
  go_enter Try.func3, Try.ntmps3
  go_wp2_with fail
  refine (rsort_ok _ _ _ _ _ _ HT.out HN.out HE.out hm _ HR.out (Nat.le_refl _)).mono ?_
  rintro e' w1 ⟨A1, c1, rfl, hown1, hb1⟩
  have X1 := Lib.hid (Reads.of_own hown1)
  have B1 := Lib.hid hb1
  clear hown1 hb1
  go_wp2_with fail
  refine (rrank_ok _ _ _ _ _ _ _ _ _ HT.out HN.out HE.out hn1 hd0 hd1 hm1 HK.out _ (HR.out.below B1.out (Nat.le_refl _)) B1.out.size).mono ?_
  rw [HY.out]
  rintro e' w2 ⟨rfl, hb2⟩
  have B2 := Lib.hid (B1.out.trans (hb2.mono B1.out.size))
  have C2 := Lib.hid (show Below w1.heap.size w1 w2 from hb2)
  clear hb2
  go_wp2_with fail
  refine (rfar_ok _ _ _ _ _ _ HX.out HN.out HE.out _ (HR.out.below B2.out (Nat.le_refl _))).mono ?_
  rw [HFX.out]
  rintro e' w' ⟨rfl, rfl⟩
  go_wp2_with fail
  refine (rk_rlist _ _ _ _ _ HN.out _ HE.out hm _ (HR.out.below B2.out (Nat.le_refl _))).mono ?_
  rintro e' w' ⟨rfl, rfl⟩
  go_wp2_with fail
  refine (rsort_ok _ _ (w2.heap.size + 1) 2 [2, 1] [1, 2] sort21 rfl (by decide) (by unfold maxLen; omega) _ ((reads_blk (Blk.new _ _ _) rfl).more (by simp)) (by simp)).mono ?_
  rintro e' w3 ⟨A3, c3, rfl, hown3, hb3⟩
  have X3 := Lib.hid (Reads.of_own hown3)
  have D3 := Lib.hid (Below.trans ((Below.refl _ w2).alloc (Nat.le_refl _) _) (hb3.mono (by simp)))
  have B3 := Lib.hid (B2.out.trans (D3.out.mono B2.out.size))
  have C3 := Lib.hid (C2.out.trans (D3.out.mono C2.out.size))
  clear hown3 hb3
  go_wp2_with fail
  refine (eqints_is _ _ _ _ (w3.heap.size + 1) 2 2 [1, 2] [1, 2] rfl rfl true rfl (by omega) (by omega) _ ((X3.out.alloc (Nat.le_refl _) _).more (by omega)) ((reads_blk (Blk.new _ _ _) rfl).more (by simp))).mono ?_
  rintro e' w4 ⟨rfl, hb4⟩
  have D4 := Lib.hid (Below.trans ((Below.refl _ w3).alloc (Nat.le_refl _) _) (hb4.mono (by simp)))
  have B4 := Lib.hid (B3.out.trans (D4.out.mono B3.out.size))
  have C4 := Lib.hid (C3.out.trans (D4.out.mono C3.out.size))
  clear hb4
  go_wp2_with fail
  refine (rsorted_any _ _ _ _ _ HT.out HN.out (by omega) _ ((HR.out.below B4.out (Nat.le_refl _)).more B4.out.size)).mono ?_
  rintro e' w5 ⟨A5, rfl, hrd5, hb5⟩
  have X5 := Lib.hid hrd5
  have B5 := Lib.hid (B4.out.trans (hb5.mono B4.out.size))
  have C5 := Lib.hid (C4.out.trans (hb5.mono C4.out.size))
  clear hrd5 hb5
  go_wp2_with fail
  refine (eqints_is _ _ _ _ w5.heap.size _ _ T T HTL.out HTL.out true (by simp) (by omega) (by omega) _ ((X1.out.below C5.out (Nat.le_refl _)).more C5.out.size) X5.out).mono ?_
  rintro e' w6 ⟨rfl, hb6⟩
  have X6 := Lib.hid (X5.out.below hb6 (Nat.le_refl _))
  have B6 := Lib.hid (B5.out.trans (hb6.mono B5.out.size))
  clear hb6 X5 C5 B5 C4 B4 D4 B3 C3 D3 X3 B2 C2 X1
  go_wp2_with fail
  refine (rkpart_any _ _ _).mono ?_
  rw [HP.out]
  rintro e' w' ⟨rfl, rfl⟩
  obtain ⟨b6, off6, rfl, hb6, hcells⟩ := X6.out.addr (by omega)
  have hcell := hcells (k - 1) _ (cellsI_at T (k - 1) (by rw [HTL.out]; omega))
  rw [HY.out] at hcell
  have hi : (k : Int) - 1 = ((k - 1 : Nat) : Int) := by omega
  clear hcells
  go_wp2_with fail
  refine (rplace_any n num den h64 hm1 hd0 hd1 _).mono ?_
  rw [HK.out]
  rintro e' w' ⟨rfl, rfl⟩
  go_wp2_with fail
  refine (lrval_any _ _).mono ?_
  rw [HX.out]
  rintro e' w' ⟨rfl, rfl⟩
  go_wp2_with fail
  go_loopw [19, 141] (fun cv kv wr => ∃ k : Nat, k ≤ n ∧ cv = .int .i64 (farT x l k) ∧ kv = .int .i64 (k : Int) ∧ wr = w6) (fun _ kv _ => n - (intOf kv).toNat)
  case atStart => exact ⟨0, by omega, by simp [farT, farL], rfl, rfl⟩
  case round =>
    obtain ⟨j, hj, rfl, rfl, rfl⟩ := hrel
    obtain ⟨d0, d1⟩ := farT_bd x hx0 hx1 l HO.out j (by omega)
    by_cases hlt : j < n
    · obtain ⟨b, off, rfl, hb, hcells⟩ := (HR.out.below B6.out (Nat.le_refl _)).addr (by omega)
      have hcell := hcells j _ (cellsI_at l j (by rw [HN.out]; exact hlt))
      obtain ⟨hst, v0, v1⟩ := farT_step x hx0 hx1 l HO.out j (by rw [HN.out]; exact hlt)
      have HB := Lib.hid hb
      obtain ⟨c2, hc2⟩ : ∃ c2, c2 = farT x l (j + 1) := ⟨_, rfl⟩
      rw [← hc2] at hst
      have HC2 := Lib.hid hc2
      have HST := Lib.hid hst
      clear hcells hb hst hc2
      generalize l.getD j 0 = v at *
      generalize farT x l j = c1 at *
      by_cases h1 : x < v
      · have e := HST.out
        rw [if_pos h1] at e
        subst e
        go_wp2
        go_roundw
        case rel => exact ⟨j + 1, by omega, by rw [← HC2.out], by simp, by first | rfl | trivial⟩
        case measure => simp [intOf]; omega
      · have e := HST.out
        rw [if_neg h1] at e
        subst e
        go_wp2
        go_roundw
        case rel => exact ⟨j + 1, by omega, by rw [← HC2.out], by simp, by first | rfl | trivial⟩
        case measure => simp [intOf]; omega
    · have hkn : j = n := by omega
      subst hkn
      have HL := Lib.hid (farT_all x l _ HN.out)
      have e := HL.out.trans HFX.out
      rw [e]
      clear e
      go_wp2
      go_ret
      exact ⟨rfl, B6.out⟩

set_option maxRecDepth 100000 in
theorem rankSays_walk (A : Option Addr) (c : Nat) (l : List Int) (num den x : Int) (w : World) (hr : Reads w w.heap.size 1 A l.length (cellsI l)) (hb : l.length ≤ c ∧ c ≤ maxLen) :
    Calls Try.prog 3 #[.slice A l.length c, .int .i64 num, .int .i64 den, .int .i64 x] w fun e' w' => e' = .returned (.bool true) ∧ Below w.heap.size w w' := by
  have hm : l.length ≤ maxLen := Nat.le_trans hb.1 hb.2
  by_cases he : listE l = 0
  · by_cases hp : 1 ≤ den ∧ den ≤ 1000 ∧ 0 ≤ num ∧ num ≤ den
    · obtain ⟨p0, p1, p2, p3⟩ := hp
      by_cases hz : l.length = 0
      · obtain rfl : l = [] := List.eq_nil_of_length_eq_zero hz
        cases hx : wi x 0 16777216
        · exact rk_none_bad A c num den p0 p1 p2 p3 x hx w
        · exact rk_none_ok A c num den p0 p1 p2 p3 x hx w
      · obtain ⟨d, rfl⟩ : ∃ d : Nat, den = d := ⟨den.toNat, by omega⟩
        obtain ⟨m, rfl⟩ : ∃ d : Nat, num = d := ⟨num.toNat, by omega⟩
        cases hx : wi x 0 16777216
        · exact rk_ok_bad A c _ l _ (So.srt_is l) rfl he m d (by omega) (by omega) (by omega) (by omega) x hx w hr
        · exact rk_ok_ok A c _ l _ (So.srt_is l) rfl he m d (by omega) (by omega) (by omega) (by omega) x hx w hr
    · have hbad : den < 1 ∨ 1000 < den ∨ num < 0 ∨ den < num := by omega
      cases hx : wi x 0 16777216
      · exact rk_bad_bad A c _ l _ (So.srt_is l) rfl he num den hbad x hx w hr
      · exact rk_bad_ok A c _ l _ (So.srt_is l) rfl he num den hbad x hx w hr
  · exact rk_err A c _ l num den x rfl _ rfl he hm w hr
end Go.Proofs.Ytignljfeihlanac
