/- The law StatSays, walked: one walk for each case of the answers. -/
import Derived.Test.YtldfppcdklnmlacSumRef
import Derived.Test.YtldfppcdklnmlacStat
namespace Go.Proofs.Ytldfppcdklnmlac
open Go.RowKit
set_option linter.unusedSimpArgs false
set_option linter.unusedVariables false

theorem rlist_is (A : Option Addr) (c B : Nat) (l : List Int) (n : Nat) (hn : l.length = n) (e : Int) (h : listE l = e) (hm : n ≤ maxLen) (w : World) (hr : Reads w B 1 A n (cellsI l)) :
    Calls Try.prog 7 #[.slice A n c] w fun e' w' => e' = .returned (.int .i64 e) ∧ w = w' := by
  subst hn h; exact rlist_any A c B l hm w hr
theorem rof_is (A : Option Addr) (c B n : Nat) (l : List Int) (hn : l.length = n) (he : listE l = 0) (hc : n ≤ c) (hm : c ≤ maxLen) (w : World) (hr : Reads w B 1 A n (cellsI l)) (hB : B ≤ w.heap.size) :
    Calls Try.prog 8 #[.slice A n c] w fun e' w' => e' = .returned (.agg #[.int .i64 n, .int .i64 (t1 l n), .int .i64 (t2 l n)]) ∧ Below w.heap.size w w' := by
  subst hn
  have := rof_all l (listE_zero he).2 (listE_zero he).1 A c B w hc hm hr hB
  rw [(t_all l).1, (t_all l).2]
  exact this
theorem mean_facts {n s : Int} (hn : 1 ≤ n) (h64 : n ≤ 64) (h0 : 0 ≤ s) (h1 : s ≤ 1073741824) : 0 ≤ s / n ∧ s / n ≤ 1073741824 ∧ 0 ≤ (s / n) * n ∧ (s / n) * n ≤ s ∧ s < (s / n + 1) * n ∧ (s / n + 1) * n ≤ 68719476800 := by
  have d := Int.emod_add_mul_ediv s n
  have r0 := Int.emod_nonneg s (by omega : n ≠ 0)
  have r1 := Int.emod_lt_of_pos s (by omega : 0 < n)
  have e : (s / n) * n = n * (s / n) := Int.mul_comm _ _
  have e2 : (s / n + 1) * n = n * (s / n) + n := by rw [Int.add_mul, e]; omega
  have m0 : 0 ≤ s / n := Int.ediv_nonneg h0 (by omega)
  have m1 : s / n ≤ s := Int.ediv_le_self n h0
  refine ⟨m0, by omega, by rw [e]; exact Int.mul_nonneg (by omega) m0, by rw [e]; omega, by omega, by omega⟩
theorem rspread_is (n s q : Int) (he : sumsE n s q = 0) (x : Int) (hx : n * q - s * s = x) (w : World) :
    Calls Try.prog 11 #[.agg #[.int .i64 n, .int .i64 s, .int .i64 q]] w fun e' w' => e' = .returned (.int .i64 x) ∧ Below w.heap.size w w' := by
  subst hx; exact rspread_ok n s q he w

set_option maxHeartbeats 4000000 in
set_option maxRecDepth 100000 in
theorem st_ee (n s q : Int) (A : Option Addr) (c B k : Nat) (l : List Int) (hn : l.length = k) (e : Int) (he : listE l = e) (hz : e ≠ 0) (f : Int) (hf : sumsE n s q = f) (hy : f ≠ 0) (hc : k ≤ c) (hm : c ≤ maxLen) (w : World) (hr : Reads w B 1 A k (cellsI l)) (hB0 : B ≤ w.heap.size) :
    Calls Try.prog 3 #[.agg #[.int .i64 n, .int .i64 s, .int .i64 q], .slice A k c] w fun e' w' => e' = .returned (.bool true) ∧ Below w.heap.size w w' := by
  have HN := Lib.hid hn
  have HE := Lib.hid he
  have HF := Lib.hid hf
  have HR := Lib.hid hr
  have HB := Lib.hid hB0
  clear hn he hf
  have E := Lib.hid ((Env.start w).lay #[.int .i64 n, .int .i64 s, .int .i64 q] 23)
  have HC := Lib.hid (hr.alloc hB0 (.cells #[.int .i64 n, .int .i64 s, .int .i64 q] 23))
  have hB : B ≤ (w.alloc (.cells #[.int .i64 n, .int .i64 s, .int .i64 q] 23)).heap.size := by simp; omega
  clear hr hB0
  go_enter Try.func3, Try.ntmps3
  go_wp2_with fail
  refine (sof_err _ _ _ k l HN.out _ HE.out hz hc hm _ HC.out hB).mono ?_
  rintro e' w1 ⟨rfl, hb1⟩
  have E1 := Lib.hid ((E.out.below hb1).lay #[.int .i64 0, .int .i64 0, .int .i64 0] 23)
  have E0 := Lib.hid (E.out.below hb1)
  clear hb1 hB
  have p0 := E0.out.hd.lt
  have a0 := E0.out.hd.cell 0
  have a1 := E0.out.hd.cell 1
  have a2 := E0.out.hd.cell 2
  simp at a0 a1 a2 p0
  go_wp2_with fail
  refine (mean_err _ _ _ _ HF.out hy _).mono ?_
  rintro e' w2 ⟨rfl, hb2⟩
  have E2 := Lib.hid (E1.out.below hb2)
  clear hb2 E1 E0 E a0 a1 a2 p0
  have p0 := E2.out.hd.lt
  have x0 := E2.out.hd.cell 0
  have x1 := E2.out.hd.cell 1
  have x2 := E2.out.hd.cell 2
  have p1 := E2.out.tl.hd.lt
  have a0 := E2.out.tl.hd.cell 0
  have a1 := E2.out.tl.hd.cell 1
  have a2 := E2.out.tl.hd.cell 2
  simp at x0 x1 x2 a0 a1 a2 p0 p1
  go_wp2_with fail
  refine (spread_err _ _ _ _ HF.out hy _).mono ?_
  rintro e' w3 ⟨rfl, hb3⟩
  have E3 := Lib.hid (E2.out.below hb3)
  clear hb3 E2 x0 x1 x2 a0 a1 a2 p0 p1
  have p0 := E3.out.hd.lt
  have x0 := E3.out.hd.cell 0
  have x1 := E3.out.hd.cell 1
  have x2 := E3.out.hd.cell 2
  have p1 := E3.out.tl.hd.lt
  have a0 := E3.out.tl.hd.cell 0
  have a1 := E3.out.tl.hd.cell 1
  have a2 := E3.out.tl.hd.cell 2
  simp at x0 x1 x2 a0 a1 a2 p0 p1
  go_wp2_with fail
  refine (rlist_is _ _ _ l k HN.out _ HE.out (by omega) _ (HR.out.below E3.out.bel HB.out)).mono ?_
  rintro e' w4 ⟨rfl, rfl⟩
  go_wp2_with fail
  refine (rsums_is _ _ _ _ HF.out _).mono ?_
  rintro e' w6 ⟨rfl, hb6⟩
  have E6 := Lib.hid (E3.out.below hb6)
  clear hb6 E3 x0 x1 x2 a0 a1 a2 p0 p1
  have p0 := E6.out.hd.lt
  have x0 := E6.out.hd.cell 0
  have x1 := E6.out.hd.cell 1
  have x2 := E6.out.hd.cell 2
  have p1 := E6.out.tl.hd.lt
  have a0 := E6.out.tl.hd.cell 0
  have a1 := E6.out.tl.hd.cell 1
  have a2 := E6.out.tl.hd.cell 2
  simp at x0 x1 x2 a0 a1 a2 p0 p1
  go_wp2_with fail
  refine (check_is _ _ _ _ HF.out _).mono ?_
  rintro e' w7 ⟨rfl, hb7⟩
  have E7 := Lib.hid (E6.out.below hb7)
  clear hb7 E6 x0 x1 x2 a0 a1 a2 p0 p1
  have p0 := E7.out.hd.lt
  have x0 := E7.out.hd.cell 0
  have x1 := E7.out.hd.cell 1
  have x2 := E7.out.hd.cell 2
  have p1 := E7.out.tl.hd.lt
  have a0 := E7.out.tl.hd.cell 0
  have a1 := E7.out.tl.hd.cell 1
  have a2 := E7.out.tl.hd.cell 2
  simp at x0 x1 x2 a0 a1 a2 p0 p1
  go_wp2_with fail
  refine (check_is _ _ _ 1 (by decide) _).mono ?_
  rintro e' w8 ⟨rfl, hb8⟩
  have E8 := Lib.hid (E7.out.below hb8)
  clear hb8 E7 x0 x1 x2 a0 a1 a2 p0 p1
  have p0 := E8.out.hd.lt
  have x0 := E8.out.hd.cell 0
  have x1 := E8.out.hd.cell 1
  have x2 := E8.out.hd.cell 2
  have p1 := E8.out.tl.hd.lt
  have a0 := E8.out.tl.hd.cell 0
  have a1 := E8.out.tl.hd.cell 1
  have a2 := E8.out.tl.hd.cell 2
  simp at x0 x1 x2 a0 a1 a2 p0 p1
  go_wp2
  all_goals first
    | (exfalso; omega)
    | (go_ret; exact ⟨rfl, E8.out.bel⟩)
    | (go_ret; exact ⟨ret_bool (by simp <;> omega), E8.out.bel⟩)

set_option maxHeartbeats 4000000 in
set_option maxRecDepth 100000 in
theorem st_ez (n s q : Int) (A : Option Addr) (c B k : Nat) (l : List Int) (hn : l.length = k) (e : Int) (he : listE l = e) (hz : e ≠ 0) (hf : sumsE n s q = 0) (hy : n ≤ 0) (hc : k ≤ c) (hm : c ≤ maxLen) (w : World) (hr : Reads w B 1 A k (cellsI l)) (hB0 : B ≤ w.heap.size) :
    Calls Try.prog 3 #[.agg #[.int .i64 n, .int .i64 s, .int .i64 q], .slice A k c] w fun e' w' => e' = .returned (.bool true) ∧ Below w.heap.size w w' := by
  have HN := Lib.hid hn
  have HE := Lib.hid he
  have HF := Lib.hid hf
  have HR := Lib.hid hr
  have HB := Lib.hid hB0
  obtain ⟨b1, b2, b3, b4, b5, b6⟩ := (sumsE_zero HF.out).1.bounds
  obtain ⟨i0, i1, i2, i3, i4, i5⟩ := (sumsE_zero HF.out).1
  have hnl := Int.not_lt.1 (sumsE_zero HF.out).2
  clear hn he hf
  have E := Lib.hid ((Env.start w).lay #[.int .i64 n, .int .i64 s, .int .i64 q] 23)
  have HC := Lib.hid (hr.alloc hB0 (.cells #[.int .i64 n, .int .i64 s, .int .i64 q] 23))
  have hB : B ≤ (w.alloc (.cells #[.int .i64 n, .int .i64 s, .int .i64 q] 23)).heap.size := by simp; omega
  clear hr hB0
  go_enter Try.func3, Try.ntmps3
  go_wp2_with fail
  refine (sof_err _ _ _ k l HN.out _ HE.out hz hc hm _ HC.out hB).mono ?_
  rintro e' w1 ⟨rfl, hb1⟩
  have E1 := Lib.hid ((E.out.below hb1).lay #[.int .i64 0, .int .i64 0, .int .i64 0] 23)
  have E0 := Lib.hid (E.out.below hb1)
  clear hb1 hB
  have p0 := E0.out.hd.lt
  have a0 := E0.out.hd.cell 0
  have a1 := E0.out.hd.cell 1
  have a2 := E0.out.hd.cell 2
  simp at a0 a1 a2 p0
  go_wp2_with fail
  refine (mean_none _ _ _ HF.out hy _).mono ?_
  rintro e' w2 ⟨rfl, hb2⟩
  have E2 := Lib.hid (E1.out.below hb2)
  clear hb2 E1 E0 E a0 a1 a2 p0
  have p0 := E2.out.hd.lt
  have x0 := E2.out.hd.cell 0
  have x1 := E2.out.hd.cell 1
  have x2 := E2.out.hd.cell 2
  have p1 := E2.out.tl.hd.lt
  have a0 := E2.out.tl.hd.cell 0
  have a1 := E2.out.tl.hd.cell 1
  have a2 := E2.out.tl.hd.cell 2
  simp at x0 x1 x2 a0 a1 a2 p0 p1
  go_wp2_with fail
  refine (spread_ok _ _ _ HF.out _).mono ?_
  rintro e' w3 ⟨rfl, hb3⟩
  have E3 := Lib.hid (E2.out.below hb3)
  clear hb3 E2 x0 x1 x2 a0 a1 a2 p0 p1
  have p0 := E3.out.hd.lt
  have x0 := E3.out.hd.cell 0
  have x1 := E3.out.hd.cell 1
  have x2 := E3.out.hd.cell 2
  have p1 := E3.out.tl.hd.lt
  have a0 := E3.out.tl.hd.cell 0
  have a1 := E3.out.tl.hd.cell 1
  have a2 := E3.out.tl.hd.cell 2
  simp at x0 x1 x2 a0 a1 a2 p0 p1
  generalize hsp : n * q - s * s = sp at *
  have HSP := Lib.hid hsp
  clear hsp
  go_wp2_with fail
  refine (rlist_is _ _ _ l k HN.out _ HE.out (by omega) _ (HR.out.below E3.out.bel HB.out)).mono ?_
  rintro e' w4 ⟨rfl, rfl⟩
  go_wp2_with fail
  refine (rsums_is _ _ _ _ HF.out _).mono ?_
  rintro e' w6 ⟨rfl, hb6⟩
  have E6 := Lib.hid (E3.out.below hb6)
  clear hb6 E3 x0 x1 x2 a0 a1 a2 p0 p1
  have p0 := E6.out.hd.lt
  have x0 := E6.out.hd.cell 0
  have x1 := E6.out.hd.cell 1
  have x2 := E6.out.hd.cell 2
  have p1 := E6.out.tl.hd.lt
  have a0 := E6.out.tl.hd.cell 0
  have a1 := E6.out.tl.hd.cell 1
  have a2 := E6.out.tl.hd.cell 2
  simp at x0 x1 x2 a0 a1 a2 p0 p1
  go_wp2_with fail
  refine (check_is _ _ _ _ HF.out _).mono ?_
  rintro e' w7 ⟨rfl, hb7⟩
  have E7 := Lib.hid (E6.out.below hb7)
  clear hb7 E6 x0 x1 x2 a0 a1 a2 p0 p1
  have p0 := E7.out.hd.lt
  have x0 := E7.out.hd.cell 0
  have x1 := E7.out.hd.cell 1
  have x2 := E7.out.hd.cell 2
  have p1 := E7.out.tl.hd.lt
  have a0 := E7.out.tl.hd.cell 0
  have a1 := E7.out.tl.hd.cell 1
  have a2 := E7.out.tl.hd.cell 2
  simp at x0 x1 x2 a0 a1 a2 p0 p1
  go_wp2_with fail
  refine (check_is _ _ _ 1 (by decide) _).mono ?_
  rintro e' w8 ⟨rfl, hb8⟩
  have E8 := Lib.hid (E7.out.below hb8)
  clear hb8 E7 x0 x1 x2 a0 a1 a2 p0 p1
  have p0 := E8.out.hd.lt
  have x0 := E8.out.hd.cell 0
  have x1 := E8.out.hd.cell 1
  have x2 := E8.out.hd.cell 2
  have p1 := E8.out.tl.hd.lt
  have a0 := E8.out.tl.hd.cell 0
  have a1 := E8.out.tl.hd.cell 1
  have a2 := E8.out.tl.hd.cell 2
  simp at x0 x1 x2 a0 a1 a2 p0 p1
  go_wp2_with fail
  refine (rspread_is _ _ _ HF.out _ HSP.out _).mono ?_
  rintro e' w9 ⟨rfl, hb9⟩
  have E9 := Lib.hid (E8.out.below hb9)
  clear hb9 E8 x0 x1 x2 a0 a1 a2 p0 p1
  have p0 := E9.out.hd.lt
  have x0 := E9.out.hd.cell 0
  have x1 := E9.out.hd.cell 1
  have x2 := E9.out.hd.cell 2
  have p1 := E9.out.tl.hd.lt
  have a0 := E9.out.tl.hd.cell 0
  have a1 := E9.out.tl.hd.cell 1
  have a2 := E9.out.tl.hd.cell 2
  simp at x0 x1 x2 a0 a1 a2 p0 p1
  go_wp2
  all_goals first
    | (exfalso; omega)
    | (go_ret; exact ⟨rfl, E9.out.bel⟩)
    | (go_ret; exact ⟨ret_bool (by simp <;> omega), E9.out.bel⟩)

set_option maxHeartbeats 4000000 in
set_option maxRecDepth 100000 in
theorem st_ep (n s q : Int) (A : Option Addr) (c B k : Nat) (l : List Int) (hn : l.length = k) (e : Int) (he : listE l = e) (hz : e ≠ 0) (hf : sumsE n s q = 0) (hy : 1 ≤ n) (hc : k ≤ c) (hm : c ≤ maxLen) (w : World) (hr : Reads w B 1 A k (cellsI l)) (hB0 : B ≤ w.heap.size) :
    Calls Try.prog 3 #[.agg #[.int .i64 n, .int .i64 s, .int .i64 q], .slice A k c] w fun e' w' => e' = .returned (.bool true) ∧ Below w.heap.size w w' := by
  have HN := Lib.hid hn
  have HE := Lib.hid he
  have HF := Lib.hid hf
  have HR := Lib.hid hr
  have HB := Lib.hid hB0
  obtain ⟨b1, b2, b3, b4, b5, b6⟩ := (sumsE_zero HF.out).1.bounds
  obtain ⟨i0, i1, i2, i3, i4, i5⟩ := (sumsE_zero HF.out).1
  have hnl := Int.not_lt.1 (sumsE_zero HF.out).2
  obtain ⟨m0, m1, m2, m3, m4, m5⟩ := mean_facts hy i1 i2 b1
  clear hn he hf
  have E := Lib.hid ((Env.start w).lay #[.int .i64 n, .int .i64 s, .int .i64 q] 23)
  have HC := Lib.hid (hr.alloc hB0 (.cells #[.int .i64 n, .int .i64 s, .int .i64 q] 23))
  have hB : B ≤ (w.alloc (.cells #[.int .i64 n, .int .i64 s, .int .i64 q] 23)).heap.size := by simp; omega
  clear hr hB0
  go_enter Try.func3, Try.ntmps3
  go_wp2_with fail
  refine (sof_err _ _ _ k l HN.out _ HE.out hz hc hm _ HC.out hB).mono ?_
  rintro e' w1 ⟨rfl, hb1⟩
  have E1 := Lib.hid ((E.out.below hb1).lay #[.int .i64 0, .int .i64 0, .int .i64 0] 23)
  have E0 := Lib.hid (E.out.below hb1)
  clear hb1 hB
  have p0 := E0.out.hd.lt
  have a0 := E0.out.hd.cell 0
  have a1 := E0.out.hd.cell 1
  have a2 := E0.out.hd.cell 2
  simp at a0 a1 a2 p0
  go_wp2_with fail
  refine (mean_ok _ _ _ HF.out hy _).mono ?_
  rintro e' w2 ⟨rfl, hb2⟩
  have E2 := Lib.hid (E1.out.below hb2)
  clear hb2 E1 E0 E a0 a1 a2 p0
  have p0 := E2.out.hd.lt
  have x0 := E2.out.hd.cell 0
  have x1 := E2.out.hd.cell 1
  have x2 := E2.out.hd.cell 2
  have p1 := E2.out.tl.hd.lt
  have a0 := E2.out.tl.hd.cell 0
  have a1 := E2.out.tl.hd.cell 1
  have a2 := E2.out.tl.hd.cell 2
  simp at x0 x1 x2 a0 a1 a2 p0 p1
  go_wp2_with fail
  refine (spread_ok _ _ _ HF.out _).mono ?_
  rintro e' w3 ⟨rfl, hb3⟩
  have E3 := Lib.hid (E2.out.below hb3)
  clear hb3 E2 x0 x1 x2 a0 a1 a2 p0 p1
  have p0 := E3.out.hd.lt
  have x0 := E3.out.hd.cell 0
  have x1 := E3.out.hd.cell 1
  have x2 := E3.out.hd.cell 2
  have p1 := E3.out.tl.hd.lt
  have a0 := E3.out.tl.hd.cell 0
  have a1 := E3.out.tl.hd.cell 1
  have a2 := E3.out.tl.hd.cell 2
  simp at x0 x1 x2 a0 a1 a2 p0 p1
  generalize hmm : s / n = m at *
  clear hmm
  generalize hsp : n * q - s * s = sp at *
  have HSP := Lib.hid hsp
  clear hsp
  go_wp2_with fail
  refine (rlist_is _ _ _ l k HN.out _ HE.out (by omega) _ (HR.out.below E3.out.bel HB.out)).mono ?_
  rintro e' w4 ⟨rfl, rfl⟩
  go_wp2_with fail
  refine (rsums_is _ _ _ _ HF.out _).mono ?_
  rintro e' w6 ⟨rfl, hb6⟩
  have E6 := Lib.hid (E3.out.below hb6)
  clear hb6 E3 x0 x1 x2 a0 a1 a2 p0 p1
  have p0 := E6.out.hd.lt
  have x0 := E6.out.hd.cell 0
  have x1 := E6.out.hd.cell 1
  have x2 := E6.out.hd.cell 2
  have p1 := E6.out.tl.hd.lt
  have a0 := E6.out.tl.hd.cell 0
  have a1 := E6.out.tl.hd.cell 1
  have a2 := E6.out.tl.hd.cell 2
  simp at x0 x1 x2 a0 a1 a2 p0 p1
  go_wp2_with fail
  refine (check_is _ _ _ _ HF.out _).mono ?_
  rintro e' w7 ⟨rfl, hb7⟩
  have E7 := Lib.hid (E6.out.below hb7)
  clear hb7 E6 x0 x1 x2 a0 a1 a2 p0 p1
  have p0 := E7.out.hd.lt
  have x0 := E7.out.hd.cell 0
  have x1 := E7.out.hd.cell 1
  have x2 := E7.out.hd.cell 2
  have p1 := E7.out.tl.hd.lt
  have a0 := E7.out.tl.hd.cell 0
  have a1 := E7.out.tl.hd.cell 1
  have a2 := E7.out.tl.hd.cell 2
  simp at x0 x1 x2 a0 a1 a2 p0 p1
  go_wp2_with fail
  refine (check_is _ _ _ 1 (by decide) _).mono ?_
  rintro e' w8 ⟨rfl, hb8⟩
  have E8 := Lib.hid (E7.out.below hb8)
  clear hb8 E7 x0 x1 x2 a0 a1 a2 p0 p1
  have p0 := E8.out.hd.lt
  have x0 := E8.out.hd.cell 0
  have x1 := E8.out.hd.cell 1
  have x2 := E8.out.hd.cell 2
  have p1 := E8.out.tl.hd.lt
  have a0 := E8.out.tl.hd.cell 0
  have a1 := E8.out.tl.hd.cell 1
  have a2 := E8.out.tl.hd.cell 2
  simp at x0 x1 x2 a0 a1 a2 p0 p1
  go_wp2_with fail
  refine (rspread_is _ _ _ HF.out _ HSP.out _).mono ?_
  rintro e' w9 ⟨rfl, hb9⟩
  have E9 := Lib.hid (E8.out.below hb9)
  clear hb9 E8 x0 x1 x2 a0 a1 a2 p0 p1
  have p0 := E9.out.hd.lt
  have x0 := E9.out.hd.cell 0
  have x1 := E9.out.hd.cell 1
  have x2 := E9.out.hd.cell 2
  have p1 := E9.out.tl.hd.lt
  have a0 := E9.out.tl.hd.cell 0
  have a1 := E9.out.tl.hd.cell 1
  have a2 := E9.out.tl.hd.cell 2
  simp at x0 x1 x2 a0 a1 a2 p0 p1
  go_wp2
  all_goals first
    | (exfalso; omega)
    | (go_ret; exact ⟨rfl, E9.out.bel⟩)
    | (go_ret; exact ⟨ret_bool (by simp <;> omega), E9.out.bel⟩)

set_option maxHeartbeats 4000000 in
set_option maxRecDepth 100000 in
theorem st_ke (n s q : Int) (A : Option Addr) (c B k : Nat) (l : List Int) (hn : l.length = k) (he : listE l = 0) (f : Int) (hf : sumsE n s q = f) (hy : f ≠ 0) (hc : k ≤ c) (hm : c ≤ maxLen) (w : World) (hr : Reads w B 1 A k (cellsI l)) (hB0 : B ≤ w.heap.size) :
    Calls Try.prog 3 #[.agg #[.int .i64 n, .int .i64 s, .int .i64 q], .slice A k c] w fun e' w' => e' = .returned (.bool true) ∧ Below w.heap.size w w' := by
  have HN := Lib.hid hn
  have HE := Lib.hid he
  have HF := Lib.hid hf
  have HR := Lib.hid hr
  have HB := Lib.hid hB0
  clear hn he hf
  have E := Lib.hid ((Env.start w).lay #[.int .i64 n, .int .i64 s, .int .i64 q] 23)
  have HC := Lib.hid (hr.alloc hB0 (.cells #[.int .i64 n, .int .i64 s, .int .i64 q] 23))
  have hB : B ≤ (w.alloc (.cells #[.int .i64 n, .int .i64 s, .int .i64 q] 23)).heap.size := by simp; omega
  clear hr hB0
  go_enter Try.func3, Try.ntmps3
  go_wp2_with fail
  refine (sof_ok _ _ _ k l HN.out HE.out hc hm _ HC.out hB).mono ?_
  rintro e' w1 ⟨rfl, hb1⟩
  have E1 := Lib.hid ((E.out.below hb1).lay #[.int .i64 k, .int .i64 (t1 l k), .int .i64 (t2 l k)] 23)
  have E0 := Lib.hid (E.out.below hb1)
  clear hb1 hB
  have p0 := E0.out.hd.lt
  have a0 := E0.out.hd.cell 0
  have a1 := E0.out.hd.cell 1
  have a2 := E0.out.hd.cell 2
  simp at a0 a1 a2 p0
  go_wp2_with fail
  refine (mean_err _ _ _ _ HF.out hy _).mono ?_
  rintro e' w2 ⟨rfl, hb2⟩
  have E2 := Lib.hid (E1.out.below hb2)
  clear hb2 E1 E0 E a0 a1 a2 p0
  have p0 := E2.out.hd.lt
  have x0 := E2.out.hd.cell 0
  have x1 := E2.out.hd.cell 1
  have x2 := E2.out.hd.cell 2
  have p1 := E2.out.tl.hd.lt
  have a0 := E2.out.tl.hd.cell 0
  have a1 := E2.out.tl.hd.cell 1
  have a2 := E2.out.tl.hd.cell 2
  simp at x0 x1 x2 a0 a1 a2 p0 p1
  go_wp2_with fail
  refine (spread_err _ _ _ _ HF.out hy _).mono ?_
  rintro e' w3 ⟨rfl, hb3⟩
  have E3 := Lib.hid (E2.out.below hb3)
  clear hb3 E2 x0 x1 x2 a0 a1 a2 p0 p1
  have p0 := E3.out.hd.lt
  have x0 := E3.out.hd.cell 0
  have x1 := E3.out.hd.cell 1
  have x2 := E3.out.hd.cell 2
  have p1 := E3.out.tl.hd.lt
  have a0 := E3.out.tl.hd.cell 0
  have a1 := E3.out.tl.hd.cell 1
  have a2 := E3.out.tl.hd.cell 2
  simp at x0 x1 x2 a0 a1 a2 p0 p1
  go_wp2_with fail
  refine (rlist_is _ _ _ l k HN.out _ HE.out (by omega) _ (HR.out.below E3.out.bel HB.out)).mono ?_
  rintro e' w4 ⟨rfl, rfl⟩
  go_wp2_with fail
  generalize hs : t1 l k = u1 at *
  generalize hq : t2 l k = u2 at *
  have HS := Lib.hid hs
  have HQ := Lib.hid hq
  clear hs hq
  have HO := Lib.hid (show ∀ w', Below w3.heap.size w3 w' → Calls Try.prog 8 #[.slice A k c] w' fun e' w'' => e' = .returned (.agg #[.int .i64 k, .int .i64 u1, .int .i64 u2]) ∧ Below w'.heap.size w' w''
    from fun w' hb => by rw [← HS.out, ← HQ.out]; exact rof_is A c B k l HN.out HE.out hc hm w' (HR.out.below (E3.out.below hb).bel HB.out) (Nat.le_trans HB.out (E3.out.below hb).bel.size))
  have HX := Lib.hid (show ∀ w', Below w3.heap.size w3 w' → (Below w3.heap.size w3 w' ∧ w'.cell? ⟨w1.heap.size, 0, none⟩ = some (.int .i64 k) ∧ w'.cell? ⟨w1.heap.size, 1, none⟩ = some (.int .i64 u1) ∧ w'.cell? ⟨w1.heap.size, 2, none⟩ = some (.int .i64 u2))
    from fun w' e8 => ⟨e8, (E3.out.below e8).hd.cell 0, (E3.out.below e8).hd.cell 1, (E3.out.below e8).hd.cell 2⟩)
  go_region_held3 (fun w' => Below w3.heap.size w3 w' ∧ w'.cell? ⟨w1.heap.size, 0, none⟩ = some (.int .i64 k) ∧ w'.cell? ⟨w1.heap.size, 1, none⟩ = some (.int .i64 u1) ∧ w'.cell? ⟨w1.heap.size, 2, none⟩ = some (.int .i64 u2))
    ((refine HX.out _ ?_; first | exact (Below.refl _ _).drew | exact And.left (by assumption) | exact Below.trans (And.left (by assumption)) (Below.mono hb4 (Below.size (And.left (by assumption))))))
    ((go_at_call 8; refine (HO.out _ (by first | exact (Below.refl _ _).drew | exact And.left (by assumption))).mono ?_; rintro e' w4 ⟨rfl, hb4⟩))
  rename_i hheld
  have E4 := Lib.hid (E3.out.below hheld.1)
  clear hheld HO HX
  clear E3 x0 x1 x2 a0 a1 a2 p0 p1
  have p0 := E4.out.hd.lt
  have x0 := E4.out.hd.cell 0
  have x1 := E4.out.hd.cell 1
  have x2 := E4.out.hd.cell 2
  have p1 := E4.out.tl.hd.lt
  have a0 := E4.out.tl.hd.cell 0
  have a1 := E4.out.tl.hd.cell 1
  have a2 := E4.out.tl.hd.cell 2
  simp at x0 x1 x2 a0 a1 a2 p0 p1
  go_wp2_with fail
  refine (rsums_is _ _ _ _ HF.out _).mono ?_
  rintro e' w6 ⟨rfl, hb6⟩
  have E6 := Lib.hid (E4.out.below hb6)
  clear hb6 E4 x0 x1 x2 a0 a1 a2 p0 p1
  have p0 := E6.out.hd.lt
  have x0 := E6.out.hd.cell 0
  have x1 := E6.out.hd.cell 1
  have x2 := E6.out.hd.cell 2
  have p1 := E6.out.tl.hd.lt
  have a0 := E6.out.tl.hd.cell 0
  have a1 := E6.out.tl.hd.cell 1
  have a2 := E6.out.tl.hd.cell 2
  simp at x0 x1 x2 a0 a1 a2 p0 p1
  go_wp2_with fail
  refine (check_is _ _ _ _ HF.out _).mono ?_
  rintro e' w7 ⟨rfl, hb7⟩
  have E7 := Lib.hid (E6.out.below hb7)
  clear hb7 E6 x0 x1 x2 a0 a1 a2 p0 p1
  have p0 := E7.out.hd.lt
  have x0 := E7.out.hd.cell 0
  have x1 := E7.out.hd.cell 1
  have x2 := E7.out.hd.cell 2
  have p1 := E7.out.tl.hd.lt
  have a0 := E7.out.tl.hd.cell 0
  have a1 := E7.out.tl.hd.cell 1
  have a2 := E7.out.tl.hd.cell 2
  simp at x0 x1 x2 a0 a1 a2 p0 p1
  go_wp2_with fail
  refine (check_is _ _ _ 1 (by decide) _).mono ?_
  rintro e' w8 ⟨rfl, hb8⟩
  have E8 := Lib.hid (E7.out.below hb8)
  clear hb8 E7 x0 x1 x2 a0 a1 a2 p0 p1
  have p0 := E8.out.hd.lt
  have x0 := E8.out.hd.cell 0
  have x1 := E8.out.hd.cell 1
  have x2 := E8.out.hd.cell 2
  have p1 := E8.out.tl.hd.lt
  have a0 := E8.out.tl.hd.cell 0
  have a1 := E8.out.tl.hd.cell 1
  have a2 := E8.out.tl.hd.cell 2
  simp at x0 x1 x2 a0 a1 a2 p0 p1
  go_wp2
  all_goals first
    | (exfalso; omega)
    | (go_ret; exact ⟨rfl, E8.out.bel⟩)
    | (go_ret; exact ⟨ret_bool (by simp <;> omega), E8.out.bel⟩)

set_option maxHeartbeats 4000000 in
set_option maxRecDepth 100000 in
theorem st_kz (n s q : Int) (A : Option Addr) (c B k : Nat) (l : List Int) (hn : l.length = k) (he : listE l = 0) (hf : sumsE n s q = 0) (hy : n ≤ 0) (hc : k ≤ c) (hm : c ≤ maxLen) (w : World) (hr : Reads w B 1 A k (cellsI l)) (hB0 : B ≤ w.heap.size) :
    Calls Try.prog 3 #[.agg #[.int .i64 n, .int .i64 s, .int .i64 q], .slice A k c] w fun e' w' => e' = .returned (.bool true) ∧ Below w.heap.size w w' := by
  have HN := Lib.hid hn
  have HE := Lib.hid he
  have HF := Lib.hid hf
  have HR := Lib.hid hr
  have HB := Lib.hid hB0
  obtain ⟨b1, b2, b3, b4, b5, b6⟩ := (sumsE_zero HF.out).1.bounds
  obtain ⟨i0, i1, i2, i3, i4, i5⟩ := (sumsE_zero HF.out).1
  have hnl := Int.not_lt.1 (sumsE_zero HF.out).2
  clear hn he hf
  have E := Lib.hid ((Env.start w).lay #[.int .i64 n, .int .i64 s, .int .i64 q] 23)
  have HC := Lib.hid (hr.alloc hB0 (.cells #[.int .i64 n, .int .i64 s, .int .i64 q] 23))
  have hB : B ≤ (w.alloc (.cells #[.int .i64 n, .int .i64 s, .int .i64 q] 23)).heap.size := by simp; omega
  clear hr hB0
  go_enter Try.func3, Try.ntmps3
  go_wp2_with fail
  refine (sof_ok _ _ _ k l HN.out HE.out hc hm _ HC.out hB).mono ?_
  rintro e' w1 ⟨rfl, hb1⟩
  have E1 := Lib.hid ((E.out.below hb1).lay #[.int .i64 k, .int .i64 (t1 l k), .int .i64 (t2 l k)] 23)
  have E0 := Lib.hid (E.out.below hb1)
  clear hb1 hB
  have p0 := E0.out.hd.lt
  have a0 := E0.out.hd.cell 0
  have a1 := E0.out.hd.cell 1
  have a2 := E0.out.hd.cell 2
  simp at a0 a1 a2 p0
  go_wp2_with fail
  refine (mean_none _ _ _ HF.out hy _).mono ?_
  rintro e' w2 ⟨rfl, hb2⟩
  have E2 := Lib.hid (E1.out.below hb2)
  clear hb2 E1 E0 E a0 a1 a2 p0
  have p0 := E2.out.hd.lt
  have x0 := E2.out.hd.cell 0
  have x1 := E2.out.hd.cell 1
  have x2 := E2.out.hd.cell 2
  have p1 := E2.out.tl.hd.lt
  have a0 := E2.out.tl.hd.cell 0
  have a1 := E2.out.tl.hd.cell 1
  have a2 := E2.out.tl.hd.cell 2
  simp at x0 x1 x2 a0 a1 a2 p0 p1
  go_wp2_with fail
  refine (spread_ok _ _ _ HF.out _).mono ?_
  rintro e' w3 ⟨rfl, hb3⟩
  have E3 := Lib.hid (E2.out.below hb3)
  clear hb3 E2 x0 x1 x2 a0 a1 a2 p0 p1
  have p0 := E3.out.hd.lt
  have x0 := E3.out.hd.cell 0
  have x1 := E3.out.hd.cell 1
  have x2 := E3.out.hd.cell 2
  have p1 := E3.out.tl.hd.lt
  have a0 := E3.out.tl.hd.cell 0
  have a1 := E3.out.tl.hd.cell 1
  have a2 := E3.out.tl.hd.cell 2
  simp at x0 x1 x2 a0 a1 a2 p0 p1
  generalize hsp : n * q - s * s = sp at *
  have HSP := Lib.hid hsp
  clear hsp
  go_wp2_with fail
  refine (rlist_is _ _ _ l k HN.out _ HE.out (by omega) _ (HR.out.below E3.out.bel HB.out)).mono ?_
  rintro e' w4 ⟨rfl, rfl⟩
  go_wp2_with fail
  generalize hs : t1 l k = u1 at *
  generalize hq : t2 l k = u2 at *
  have HS := Lib.hid hs
  have HQ := Lib.hid hq
  clear hs hq
  have HO := Lib.hid (show ∀ w', Below w3.heap.size w3 w' → Calls Try.prog 8 #[.slice A k c] w' fun e' w'' => e' = .returned (.agg #[.int .i64 k, .int .i64 u1, .int .i64 u2]) ∧ Below w'.heap.size w' w''
    from fun w' hb => by rw [← HS.out, ← HQ.out]; exact rof_is A c B k l HN.out HE.out hc hm w' (HR.out.below (E3.out.below hb).bel HB.out) (Nat.le_trans HB.out (E3.out.below hb).bel.size))
  have HX := Lib.hid (show ∀ w', Below w3.heap.size w3 w' → (Below w3.heap.size w3 w' ∧ w'.cell? ⟨w1.heap.size, 0, none⟩ = some (.int .i64 k) ∧ w'.cell? ⟨w1.heap.size, 1, none⟩ = some (.int .i64 u1) ∧ w'.cell? ⟨w1.heap.size, 2, none⟩ = some (.int .i64 u2))
    from fun w' e8 => ⟨e8, (E3.out.below e8).hd.cell 0, (E3.out.below e8).hd.cell 1, (E3.out.below e8).hd.cell 2⟩)
  go_region_held3 (fun w' => Below w3.heap.size w3 w' ∧ w'.cell? ⟨w1.heap.size, 0, none⟩ = some (.int .i64 k) ∧ w'.cell? ⟨w1.heap.size, 1, none⟩ = some (.int .i64 u1) ∧ w'.cell? ⟨w1.heap.size, 2, none⟩ = some (.int .i64 u2))
    ((refine HX.out _ ?_; first | exact (Below.refl _ _).drew | exact And.left (by assumption) | exact Below.trans (And.left (by assumption)) (Below.mono hb4 (Below.size (And.left (by assumption))))))
    ((go_at_call 8; refine (HO.out _ (by first | exact (Below.refl _ _).drew | exact And.left (by assumption))).mono ?_; rintro e' w4 ⟨rfl, hb4⟩))
  rename_i hheld
  have E4 := Lib.hid (E3.out.below hheld.1)
  clear hheld HO HX
  clear E3 x0 x1 x2 a0 a1 a2 p0 p1
  have p0 := E4.out.hd.lt
  have x0 := E4.out.hd.cell 0
  have x1 := E4.out.hd.cell 1
  have x2 := E4.out.hd.cell 2
  have p1 := E4.out.tl.hd.lt
  have a0 := E4.out.tl.hd.cell 0
  have a1 := E4.out.tl.hd.cell 1
  have a2 := E4.out.tl.hd.cell 2
  simp at x0 x1 x2 a0 a1 a2 p0 p1
  go_wp2_with fail
  refine (rsums_is _ _ _ _ HF.out _).mono ?_
  rintro e' w6 ⟨rfl, hb6⟩
  have E6 := Lib.hid (E4.out.below hb6)
  clear hb6 E4 x0 x1 x2 a0 a1 a2 p0 p1
  have p0 := E6.out.hd.lt
  have x0 := E6.out.hd.cell 0
  have x1 := E6.out.hd.cell 1
  have x2 := E6.out.hd.cell 2
  have p1 := E6.out.tl.hd.lt
  have a0 := E6.out.tl.hd.cell 0
  have a1 := E6.out.tl.hd.cell 1
  have a2 := E6.out.tl.hd.cell 2
  simp at x0 x1 x2 a0 a1 a2 p0 p1
  go_wp2_with fail
  refine (check_is _ _ _ _ HF.out _).mono ?_
  rintro e' w7 ⟨rfl, hb7⟩
  have E7 := Lib.hid (E6.out.below hb7)
  clear hb7 E6 x0 x1 x2 a0 a1 a2 p0 p1
  have p0 := E7.out.hd.lt
  have x0 := E7.out.hd.cell 0
  have x1 := E7.out.hd.cell 1
  have x2 := E7.out.hd.cell 2
  have p1 := E7.out.tl.hd.lt
  have a0 := E7.out.tl.hd.cell 0
  have a1 := E7.out.tl.hd.cell 1
  have a2 := E7.out.tl.hd.cell 2
  simp at x0 x1 x2 a0 a1 a2 p0 p1
  go_wp2_with fail
  refine (check_is _ _ _ 1 (by decide) _).mono ?_
  rintro e' w8 ⟨rfl, hb8⟩
  have E8 := Lib.hid (E7.out.below hb8)
  clear hb8 E7 x0 x1 x2 a0 a1 a2 p0 p1
  have p0 := E8.out.hd.lt
  have x0 := E8.out.hd.cell 0
  have x1 := E8.out.hd.cell 1
  have x2 := E8.out.hd.cell 2
  have p1 := E8.out.tl.hd.lt
  have a0 := E8.out.tl.hd.cell 0
  have a1 := E8.out.tl.hd.cell 1
  have a2 := E8.out.tl.hd.cell 2
  simp at x0 x1 x2 a0 a1 a2 p0 p1
  go_wp2_with fail
  refine (rspread_is _ _ _ HF.out _ HSP.out _).mono ?_
  rintro e' w9 ⟨rfl, hb9⟩
  have E9 := Lib.hid (E8.out.below hb9)
  clear hb9 E8 x0 x1 x2 a0 a1 a2 p0 p1
  have p0 := E9.out.hd.lt
  have x0 := E9.out.hd.cell 0
  have x1 := E9.out.hd.cell 1
  have x2 := E9.out.hd.cell 2
  have p1 := E9.out.tl.hd.lt
  have a0 := E9.out.tl.hd.cell 0
  have a1 := E9.out.tl.hd.cell 1
  have a2 := E9.out.tl.hd.cell 2
  simp at x0 x1 x2 a0 a1 a2 p0 p1
  go_wp2
  all_goals first
    | (exfalso; omega)
    | (go_ret; exact ⟨rfl, E9.out.bel⟩)
    | (go_ret; exact ⟨ret_bool (by simp <;> omega), E9.out.bel⟩)

set_option maxHeartbeats 4000000 in
set_option maxRecDepth 100000 in
theorem st_kp (n s q : Int) (A : Option Addr) (c B k : Nat) (l : List Int) (hn : l.length = k) (he : listE l = 0) (hf : sumsE n s q = 0) (hy : 1 ≤ n) (hc : k ≤ c) (hm : c ≤ maxLen) (w : World) (hr : Reads w B 1 A k (cellsI l)) (hB0 : B ≤ w.heap.size) :
    Calls Try.prog 3 #[.agg #[.int .i64 n, .int .i64 s, .int .i64 q], .slice A k c] w fun e' w' => e' = .returned (.bool true) ∧ Below w.heap.size w w' := by
  have HN := Lib.hid hn
  have HE := Lib.hid he
  have HF := Lib.hid hf
  have HR := Lib.hid hr
  have HB := Lib.hid hB0
  obtain ⟨b1, b2, b3, b4, b5, b6⟩ := (sumsE_zero HF.out).1.bounds
  obtain ⟨i0, i1, i2, i3, i4, i5⟩ := (sumsE_zero HF.out).1
  have hnl := Int.not_lt.1 (sumsE_zero HF.out).2
  obtain ⟨m0, m1, m2, m3, m4, m5⟩ := mean_facts hy i1 i2 b1
  clear hn he hf
  have E := Lib.hid ((Env.start w).lay #[.int .i64 n, .int .i64 s, .int .i64 q] 23)
  have HC := Lib.hid (hr.alloc hB0 (.cells #[.int .i64 n, .int .i64 s, .int .i64 q] 23))
  have hB : B ≤ (w.alloc (.cells #[.int .i64 n, .int .i64 s, .int .i64 q] 23)).heap.size := by simp; omega
  clear hr hB0
  go_enter Try.func3, Try.ntmps3
  go_wp2_with fail
  refine (sof_ok _ _ _ k l HN.out HE.out hc hm _ HC.out hB).mono ?_
  rintro e' w1 ⟨rfl, hb1⟩
  have E1 := Lib.hid ((E.out.below hb1).lay #[.int .i64 k, .int .i64 (t1 l k), .int .i64 (t2 l k)] 23)
  have E0 := Lib.hid (E.out.below hb1)
  clear hb1 hB
  have p0 := E0.out.hd.lt
  have a0 := E0.out.hd.cell 0
  have a1 := E0.out.hd.cell 1
  have a2 := E0.out.hd.cell 2
  simp at a0 a1 a2 p0
  go_wp2_with fail
  refine (mean_ok _ _ _ HF.out hy _).mono ?_
  rintro e' w2 ⟨rfl, hb2⟩
  have E2 := Lib.hid (E1.out.below hb2)
  clear hb2 E1 E0 E a0 a1 a2 p0
  have p0 := E2.out.hd.lt
  have x0 := E2.out.hd.cell 0
  have x1 := E2.out.hd.cell 1
  have x2 := E2.out.hd.cell 2
  have p1 := E2.out.tl.hd.lt
  have a0 := E2.out.tl.hd.cell 0
  have a1 := E2.out.tl.hd.cell 1
  have a2 := E2.out.tl.hd.cell 2
  simp at x0 x1 x2 a0 a1 a2 p0 p1
  go_wp2_with fail
  refine (spread_ok _ _ _ HF.out _).mono ?_
  rintro e' w3 ⟨rfl, hb3⟩
  have E3 := Lib.hid (E2.out.below hb3)
  clear hb3 E2 x0 x1 x2 a0 a1 a2 p0 p1
  have p0 := E3.out.hd.lt
  have x0 := E3.out.hd.cell 0
  have x1 := E3.out.hd.cell 1
  have x2 := E3.out.hd.cell 2
  have p1 := E3.out.tl.hd.lt
  have a0 := E3.out.tl.hd.cell 0
  have a1 := E3.out.tl.hd.cell 1
  have a2 := E3.out.tl.hd.cell 2
  simp at x0 x1 x2 a0 a1 a2 p0 p1
  generalize hmm : s / n = m at *
  clear hmm
  generalize hsp : n * q - s * s = sp at *
  have HSP := Lib.hid hsp
  clear hsp
  go_wp2_with fail
  refine (rlist_is _ _ _ l k HN.out _ HE.out (by omega) _ (HR.out.below E3.out.bel HB.out)).mono ?_
  rintro e' w4 ⟨rfl, rfl⟩
  go_wp2_with fail
  generalize hs : t1 l k = u1 at *
  generalize hq : t2 l k = u2 at *
  have HS := Lib.hid hs
  have HQ := Lib.hid hq
  clear hs hq
  have HO := Lib.hid (show ∀ w', Below w3.heap.size w3 w' → Calls Try.prog 8 #[.slice A k c] w' fun e' w'' => e' = .returned (.agg #[.int .i64 k, .int .i64 u1, .int .i64 u2]) ∧ Below w'.heap.size w' w''
    from fun w' hb => by rw [← HS.out, ← HQ.out]; exact rof_is A c B k l HN.out HE.out hc hm w' (HR.out.below (E3.out.below hb).bel HB.out) (Nat.le_trans HB.out (E3.out.below hb).bel.size))
  have HX := Lib.hid (show ∀ w', Below w3.heap.size w3 w' → (Below w3.heap.size w3 w' ∧ w'.cell? ⟨w1.heap.size, 0, none⟩ = some (.int .i64 k) ∧ w'.cell? ⟨w1.heap.size, 1, none⟩ = some (.int .i64 u1) ∧ w'.cell? ⟨w1.heap.size, 2, none⟩ = some (.int .i64 u2))
    from fun w' e8 => ⟨e8, (E3.out.below e8).hd.cell 0, (E3.out.below e8).hd.cell 1, (E3.out.below e8).hd.cell 2⟩)
  go_region_held3 (fun w' => Below w3.heap.size w3 w' ∧ w'.cell? ⟨w1.heap.size, 0, none⟩ = some (.int .i64 k) ∧ w'.cell? ⟨w1.heap.size, 1, none⟩ = some (.int .i64 u1) ∧ w'.cell? ⟨w1.heap.size, 2, none⟩ = some (.int .i64 u2))
    ((refine HX.out _ ?_; first | exact (Below.refl _ _).drew | exact And.left (by assumption) | exact Below.trans (And.left (by assumption)) (Below.mono hb4 (Below.size (And.left (by assumption))))))
    ((go_at_call 8; refine (HO.out _ (by first | exact (Below.refl _ _).drew | exact And.left (by assumption))).mono ?_; rintro e' w4 ⟨rfl, hb4⟩))
  rename_i hheld
  have E4 := Lib.hid (E3.out.below hheld.1)
  clear hheld HO HX
  clear E3 x0 x1 x2 a0 a1 a2 p0 p1
  have p0 := E4.out.hd.lt
  have x0 := E4.out.hd.cell 0
  have x1 := E4.out.hd.cell 1
  have x2 := E4.out.hd.cell 2
  have p1 := E4.out.tl.hd.lt
  have a0 := E4.out.tl.hd.cell 0
  have a1 := E4.out.tl.hd.cell 1
  have a2 := E4.out.tl.hd.cell 2
  simp at x0 x1 x2 a0 a1 a2 p0 p1
  go_wp2_with fail
  refine (rsums_is _ _ _ _ HF.out _).mono ?_
  rintro e' w6 ⟨rfl, hb6⟩
  have E6 := Lib.hid (E4.out.below hb6)
  clear hb6 E4 x0 x1 x2 a0 a1 a2 p0 p1
  have p0 := E6.out.hd.lt
  have x0 := E6.out.hd.cell 0
  have x1 := E6.out.hd.cell 1
  have x2 := E6.out.hd.cell 2
  have p1 := E6.out.tl.hd.lt
  have a0 := E6.out.tl.hd.cell 0
  have a1 := E6.out.tl.hd.cell 1
  have a2 := E6.out.tl.hd.cell 2
  simp at x0 x1 x2 a0 a1 a2 p0 p1
  go_wp2_with fail
  refine (check_is _ _ _ _ HF.out _).mono ?_
  rintro e' w7 ⟨rfl, hb7⟩
  have E7 := Lib.hid (E6.out.below hb7)
  clear hb7 E6 x0 x1 x2 a0 a1 a2 p0 p1
  have p0 := E7.out.hd.lt
  have x0 := E7.out.hd.cell 0
  have x1 := E7.out.hd.cell 1
  have x2 := E7.out.hd.cell 2
  have p1 := E7.out.tl.hd.lt
  have a0 := E7.out.tl.hd.cell 0
  have a1 := E7.out.tl.hd.cell 1
  have a2 := E7.out.tl.hd.cell 2
  simp at x0 x1 x2 a0 a1 a2 p0 p1
  go_wp2_with fail
  refine (check_is _ _ _ 1 (by decide) _).mono ?_
  rintro e' w8 ⟨rfl, hb8⟩
  have E8 := Lib.hid (E7.out.below hb8)
  clear hb8 E7 x0 x1 x2 a0 a1 a2 p0 p1
  have p0 := E8.out.hd.lt
  have x0 := E8.out.hd.cell 0
  have x1 := E8.out.hd.cell 1
  have x2 := E8.out.hd.cell 2
  have p1 := E8.out.tl.hd.lt
  have a0 := E8.out.tl.hd.cell 0
  have a1 := E8.out.tl.hd.cell 1
  have a2 := E8.out.tl.hd.cell 2
  simp at x0 x1 x2 a0 a1 a2 p0 p1
  go_wp2_with fail
  refine (rspread_is _ _ _ HF.out _ HSP.out _).mono ?_
  rintro e' w9 ⟨rfl, hb9⟩
  have E9 := Lib.hid (E8.out.below hb9)
  clear hb9 E8 x0 x1 x2 a0 a1 a2 p0 p1
  have p0 := E9.out.hd.lt
  have x0 := E9.out.hd.cell 0
  have x1 := E9.out.hd.cell 1
  have x2 := E9.out.hd.cell 2
  have p1 := E9.out.tl.hd.lt
  have a0 := E9.out.tl.hd.cell 0
  have a1 := E9.out.tl.hd.cell 1
  have a2 := E9.out.tl.hd.cell 2
  simp at x0 x1 x2 a0 a1 a2 p0 p1
  go_wp2
  all_goals first
    | (exfalso; omega)
    | (go_ret; exact ⟨rfl, E9.out.bel⟩)
    | (go_ret; exact ⟨ret_bool (by simp <;> omega), E9.out.bel⟩)

theorem statSays_walk (n s q : Int) (A : Option Addr) (c : Nat) (l : List Int)
    (w : World) (_b : -9223372036854775808 ≤ n ∧ n ≤ 9223372036854775807 ∧ -9223372036854775808 ≤ s ∧ s ≤ 9223372036854775807 ∧ -9223372036854775808 ≤ q ∧ q ≤ 9223372036854775807)
    (hr : Reads w w.heap.size 1 A l.length (cellsI l)) (hb : l.length ≤ c ∧ c ≤ maxLen) (_s : ∀ x ∈ l, -9223372036854775808 ≤ x ∧ x ≤ 9223372036854775807) :
    Calls Try.prog 3 #[.agg #[.int .i64 n, .int .i64 s, .int .i64 q], .slice A l.length c] w fun e' w' => e' = .returned (.bool true) ∧ Below w.heap.size w w' := by
  by_cases he : listE l = 0
  · by_cases hf : sumsE n s q = 0
    · rcases Int.lt_or_le n 1 with hn | hn
      · exact st_kz n s q A c _ _ l rfl he hf (by omega) hb.1 hb.2 w hr (Nat.le_refl _)
      · exact st_kp n s q A c _ _ l rfl he hf hn hb.1 hb.2 w hr (Nat.le_refl _)
    · exact st_ke n s q A c _ _ l rfl he _ rfl hf hb.1 hb.2 w hr (Nat.le_refl _)
  · by_cases hf : sumsE n s q = 0
    · rcases Int.lt_or_le n 1 with hn | hn
      · exact st_ez n s q A c _ _ l rfl _ rfl he hf (by omega) hb.1 hb.2 w hr (Nat.le_refl _)
      · exact st_ep n s q A c _ _ l rfl _ rfl he hf hn hb.1 hb.2 w hr (Nat.le_refl _)
    · exact st_ee n s q A c _ _ l rfl _ rfl he _ rfl hf hb.1 hb.2 w hr (Nat.le_refl _)
end Go.Proofs.Ytldfppcdklnmlac
