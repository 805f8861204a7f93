/- stat.Add, Less and Join, walked. -/
import Derived.Test.YtljnmginngodkaeSums
namespace Go.Proofs.Ytljnmginngodkae
open Go.RowKit
set_option linter.unusedSimpArgs false
set_option linter.unusedVariables false

set_option maxHeartbeats 2000000 in
set_option maxRecDepth 100000 in
theorem add_err (n s q v : Int) (e : Int) (he : sumsE n s q = e) (hn : e ≠ 0) (w : World) :
    Calls Try.prog 4 #[.agg #[.int .i64 n, .int .i64 s, .int .i64 q], .int .i64 v] w fun e' w' => e' = .returned (.tuple #[.agg #[.int .i64 0, .int .i64 0, .int .i64 0], .int .i64 e]) ∧ Below w.heap.size w w' := by
  have HE := Lib.hid he
  clear he
  have E := Lib.hid (((Env.start w).lay #[.int .i64 n, .int .i64 s, .int .i64 q] 23).lay #[.int .i64 0, .int .i64 0, .int .i64 0] 23)
  go_enter Try.func4, Try.ntmps4
  go_wp2_with fail
  refine (check_is _ _ _ _ HE.out _).mono ?_
  rintro e' w1 ⟨rfl, hb1⟩
  have E1 := Lib.hid (E.out.below hb1)
  clear hb1
  have p0 := E1.out.hd.lt
  have p1 := E1.out.tl.hd.lt
  have b0 := E1.out.hd.cell 0
  have b1 := E1.out.hd.cell 1
  have b2 := E1.out.hd.cell 2
  have a0 := E1.out.tl.hd.cell 0
  have a1 := E1.out.tl.hd.cell 1
  have a2 := E1.out.tl.hd.cell 2
  have f0 := E1.out.hd.frozen 0
  have f1 := E1.out.hd.frozen 1
  have f2 := E1.out.hd.frozen 2
  simp at a0 a1 a2 b0 b1 b2 f0 f1 f2 p0 p1
  go_wp2_with fail
  refine bodyPost_ret (v := .tuple #[.agg #[.int .i64 0, .int .i64 0, .int .i64 0], .int .i64 e]) (by simp [results, Try.results4, go_sem, b0, b1, b2, a0, a1, a2] <;> omega) rfl ⟨rfl, ?_⟩
  exact ((E1.out.bel.setCell (by simp <;> omega) _).setCell (by simp <;> omega) _).setCell (by simp <;> omega) _

set_option maxHeartbeats 2000000 in
set_option maxRecDepth 100000 in
theorem add_val (n s q v : Int) (he : sumsE n s q = 0) (hv : wi v 0 16777216 = false) (w : World) :
    Calls Try.prog 4 #[.agg #[.int .i64 n, .int .i64 s, .int .i64 q], .int .i64 v] w fun e' w' => e' = .returned (.tuple #[.agg #[.int .i64 0, .int .i64 0, .int .i64 0], .int .i64 1]) ∧ Below w.heap.size w w' := by
  have HE := Lib.hid he
  clear he
  have HV := Lib.hid hv
  clear hv
  obtain ⟨b1, b2, -, -, -, -⟩ := (sumsE_zero HE.out).1.bounds
  obtain ⟨h0, h1, h2, h3, h4, h5⟩ := (sumsE_zero HE.out).1
  have E := Lib.hid (((Env.start w).lay #[.int .i64 n, .int .i64 s, .int .i64 q] 23).lay #[.int .i64 0, .int .i64 0, .int .i64 0] 23)
  go_enter Try.func4, Try.ntmps4
  go_wp2_with fail
  refine (check_is _ _ _ _ HE.out _).mono ?_
  rintro e' w1 ⟨rfl, hb1⟩
  have E1 := Lib.hid (E.out.below hb1)
  clear hb1
  have p0 := E1.out.hd.lt
  have p1 := E1.out.tl.hd.lt
  have b0 := E1.out.hd.cell 0
  have b1 := E1.out.hd.cell 1
  have b2 := E1.out.hd.cell 2
  have a0 := E1.out.tl.hd.cell 0
  have a1 := E1.out.tl.hd.cell 1
  have a2 := E1.out.tl.hd.cell 2
  have f0 := E1.out.hd.frozen 0
  have f1 := E1.out.hd.frozen 1
  have f2 := E1.out.hd.frozen 2
  simp at a0 a1 a2 b0 b1 b2 f0 f1 f2 p0 p1
  go_wp2_with (go_at_call 10; refine (wval_is _ _ HV.out _).mono ?_; rintro e w' ⟨rfl, rfl⟩)
  refine bodyPost_ret (v := .tuple #[.agg #[.int .i64 0, .int .i64 0, .int .i64 0], .int .i64 1]) (by simp [results, Try.results4, go_sem, b0, b1, b2, a0, a1, a2] <;> omega) rfl ⟨rfl, ?_⟩
  exact ((E1.out.bel.setCell (by simp <;> omega) _).setCell (by simp <;> omega) _).setCell (by simp <;> omega) _

set_option maxHeartbeats 2000000 in
set_option maxRecDepth 100000 in
theorem less_err (n s q v : Int) (e : Int) (he : sumsE n s q = e) (hn : e ≠ 0) (w : World) :
    Calls Try.prog 5 #[.agg #[.int .i64 n, .int .i64 s, .int .i64 q], .int .i64 v] w fun e' w' => e' = .returned (.tuple #[.agg #[.int .i64 0, .int .i64 0, .int .i64 0], .int .i64 e]) ∧ Below w.heap.size w w' := by
  have HE := Lib.hid he
  clear he
  have E := Lib.hid (((Env.start w).lay #[.int .i64 n, .int .i64 s, .int .i64 q] 23).lay #[.int .i64 0, .int .i64 0, .int .i64 0] 23)
  go_enter Try.func5, Try.ntmps5
  go_wp2_with fail
  refine (check_is _ _ _ _ HE.out _).mono ?_
  rintro e' w1 ⟨rfl, hb1⟩
  have E1 := Lib.hid (E.out.below hb1)
  clear hb1
  have p0 := E1.out.hd.lt
  have p1 := E1.out.tl.hd.lt
  have b0 := E1.out.hd.cell 0
  have b1 := E1.out.hd.cell 1
  have b2 := E1.out.hd.cell 2
  have a0 := E1.out.tl.hd.cell 0
  have a1 := E1.out.tl.hd.cell 1
  have a2 := E1.out.tl.hd.cell 2
  have f0 := E1.out.hd.frozen 0
  have f1 := E1.out.hd.frozen 1
  have f2 := E1.out.hd.frozen 2
  simp at a0 a1 a2 b0 b1 b2 f0 f1 f2 p0 p1
  go_wp2_with fail
  refine bodyPost_ret (v := .tuple #[.agg #[.int .i64 0, .int .i64 0, .int .i64 0], .int .i64 e]) (by simp [results, Try.results5, go_sem, b0, b1, b2, a0, a1, a2] <;> omega) rfl ⟨rfl, ?_⟩
  exact ((E1.out.bel.setCell (by simp <;> omega) _).setCell (by simp <;> omega) _).setCell (by simp <;> omega) _

set_option maxHeartbeats 2000000 in
set_option maxRecDepth 100000 in
theorem less_val (n s q v : Int) (he : sumsE n s q = 0) (hv : wi v 0 16777216 = false) (w : World) :
    Calls Try.prog 5 #[.agg #[.int .i64 n, .int .i64 s, .int .i64 q], .int .i64 v] w fun e' w' => e' = .returned (.tuple #[.agg #[.int .i64 0, .int .i64 0, .int .i64 0], .int .i64 1]) ∧ Below w.heap.size w w' := by
  have HE := Lib.hid he
  clear he
  have HV := Lib.hid hv
  clear hv
  obtain ⟨b1, b2, -, -, -, -⟩ := (sumsE_zero HE.out).1.bounds
  obtain ⟨h0, h1, h2, h3, h4, h5⟩ := (sumsE_zero HE.out).1
  have E := Lib.hid (((Env.start w).lay #[.int .i64 n, .int .i64 s, .int .i64 q] 23).lay #[.int .i64 0, .int .i64 0, .int .i64 0] 23)
  go_enter Try.func5, Try.ntmps5
  go_wp2_with fail
  refine (check_is _ _ _ _ HE.out _).mono ?_
  rintro e' w1 ⟨rfl, hb1⟩
  have E1 := Lib.hid (E.out.below hb1)
  clear hb1
  have p0 := E1.out.hd.lt
  have p1 := E1.out.tl.hd.lt
  have b0 := E1.out.hd.cell 0
  have b1 := E1.out.hd.cell 1
  have b2 := E1.out.hd.cell 2
  have a0 := E1.out.tl.hd.cell 0
  have a1 := E1.out.tl.hd.cell 1
  have a2 := E1.out.tl.hd.cell 2
  have f0 := E1.out.hd.frozen 0
  have f1 := E1.out.hd.frozen 1
  have f2 := E1.out.hd.frozen 2
  simp at a0 a1 a2 b0 b1 b2 f0 f1 f2 p0 p1
  go_wp2_with (go_at_call 10; refine (wval_is _ _ HV.out _).mono ?_; rintro e w' ⟨rfl, rfl⟩)
  refine bodyPost_ret (v := .tuple #[.agg #[.int .i64 0, .int .i64 0, .int .i64 0], .int .i64 1]) (by simp [results, Try.results5, go_sem, b0, b1, b2, a0, a1, a2] <;> omega) rfl ⟨rfl, ?_⟩
  exact ((E1.out.bel.setCell (by simp <;> omega) _).setCell (by simp <;> omega) _).setCell (by simp <;> omega) _

set_option maxHeartbeats 2000000 in
set_option maxRecDepth 100000 in
theorem add_full (n s q v : Int) (he : sumsE n s q = 0) (hv : wi v 0 16777216 = true) (hf : 64 ≤ n) (w : World) :
    Calls Try.prog 4 #[.agg #[.int .i64 n, .int .i64 s, .int .i64 q], .int .i64 v] w fun e' w' => e' = .returned (.tuple #[.agg #[.int .i64 0, .int .i64 0, .int .i64 0], .int .i64 2]) ∧ Below w.heap.size w w' := by
  have HE := Lib.hid he
  clear he
  have HV := Lib.hid hv
  clear hv
  obtain ⟨b1, b2, -, -, -, -⟩ := (sumsE_zero HE.out).1.bounds
  obtain ⟨h0, h1, h2, h3, h4, h5⟩ := (sumsE_zero HE.out).1
  obtain ⟨v0, v1, v2, v3⟩ := sq_bounds HV.out
  have E := Lib.hid (((Env.start w).lay #[.int .i64 n, .int .i64 s, .int .i64 q] 23).lay #[.int .i64 0, .int .i64 0, .int .i64 0] 23)
  go_enter Try.func4, Try.ntmps4
  go_wp2_with fail
  refine (check_is _ _ _ _ HE.out _).mono ?_
  rintro e' w1 ⟨rfl, hb1⟩
  have E1 := Lib.hid (E.out.below hb1)
  clear hb1
  have p0 := E1.out.hd.lt
  have p1 := E1.out.tl.hd.lt
  have b0 := E1.out.hd.cell 0
  have b1 := E1.out.hd.cell 1
  have b2 := E1.out.hd.cell 2
  have a0 := E1.out.tl.hd.cell 0
  have a1 := E1.out.tl.hd.cell 1
  have a2 := E1.out.tl.hd.cell 2
  have f0 := E1.out.hd.frozen 0
  have f1 := E1.out.hd.frozen 1
  have f2 := E1.out.hd.frozen 2
  simp at a0 a1 a2 b0 b1 b2 f0 f1 f2 p0 p1
  go_wp2_with (go_at_call 10; refine (wval_is _ _ HV.out _).mono ?_; rintro e w' ⟨rfl, rfl⟩)
  refine bodyPost_ret (v := .tuple #[.agg #[.int .i64 0, .int .i64 0, .int .i64 0], .int .i64 2]) (by simp [results, Try.results4, go_sem, b0, b1, b2, a0, a1, a2] <;> omega) rfl ⟨rfl, ?_⟩
  exact ((E1.out.bel.setCell (by simp <;> omega) _).setCell (by simp <;> omega) _).setCell (by simp <;> omega) _

set_option maxHeartbeats 2000000 in
set_option maxRecDepth 100000 in
theorem add_ok (n s q v : Int) (he : sumsE n s q = 0) (hv : wi v 0 16777216 = true) (hf : n < 64) (w : World) :
    Calls Try.prog 4 #[.agg #[.int .i64 n, .int .i64 s, .int .i64 q], .int .i64 v] w fun e' w' => e' = .returned (.tuple #[.agg #[.int .i64 (n + 1), .int .i64 (s + v), .int .i64 (q + v * v)], .int .i64 0]) ∧ Below w.heap.size w w' := by
  have HE := Lib.hid he
  clear he
  have HV := Lib.hid hv
  clear hv
  obtain ⟨b1, b2, -, -, -, -⟩ := (sumsE_zero HE.out).1.bounds
  obtain ⟨h0, h1, h2, h3, h4, h5⟩ := (sumsE_zero HE.out).1
  obtain ⟨v0, v1, v2, v3⟩ := sq_bounds HV.out
  have E := Lib.hid (((Env.start w).lay #[.int .i64 n, .int .i64 s, .int .i64 q] 23).lay #[.int .i64 0, .int .i64 0, .int .i64 0] 23)
  go_enter Try.func4, Try.ntmps4
  go_wp2_with fail
  refine (check_is _ _ _ _ HE.out _).mono ?_
  rintro e' w1 ⟨rfl, hb1⟩
  have E1 := Lib.hid (E.out.below hb1)
  clear hb1
  have p0 := E1.out.hd.lt
  have p1 := E1.out.tl.hd.lt
  have b0 := E1.out.hd.cell 0
  have b1 := E1.out.hd.cell 1
  have b2 := E1.out.hd.cell 2
  have a0 := E1.out.tl.hd.cell 0
  have a1 := E1.out.tl.hd.cell 1
  have a2 := E1.out.tl.hd.cell 2
  have f0 := E1.out.hd.frozen 0
  have f1 := E1.out.hd.frozen 1
  have f2 := E1.out.hd.frozen 2
  simp at a0 a1 a2 b0 b1 b2 f0 f1 f2 p0 p1
  go_wp2_with (go_at_call 10; refine (wval_is _ _ HV.out _).mono ?_; rintro e w' ⟨rfl, rfl⟩)
  refine bodyPost_ret (v := .tuple #[.agg #[.int .i64 (n + 1), .int .i64 (s + v), .int .i64 (q + v * v)], .int .i64 0]) (by simp [results, Try.results4, go_sem, b0, b1, b2, a0, a1, a2] <;> omega) rfl ⟨rfl, ?_⟩
  exact ((E1.out.bel.setCell (by simp <;> omega) _).setCell (by simp <;> omega) _).setCell (by simp <;> omega) _

set_option maxHeartbeats 2000000 in
set_option maxRecDepth 100000 in
theorem less_none (n s q v : Int) (he : sumsE n s q = 0) (hv : wi v 0 16777216 = true) (l : Int) (hl : sumsE (n - 1) (s - v) (q - v * v) = l) (hn : l ≠ 0) (w : World) :
    Calls Try.prog 5 #[.agg #[.int .i64 n, .int .i64 s, .int .i64 q], .int .i64 v] w fun e' w' => e' = .returned (.tuple #[.agg #[.int .i64 0, .int .i64 0, .int .i64 0], .int .i64 4]) ∧ Below w.heap.size w w' := by
  have HE := Lib.hid he
  clear he
  have HV := Lib.hid hv
  clear hv
  have HL := Lib.hid hl
  clear hl
  obtain ⟨b1, b2, -, -, -, -⟩ := (sumsE_zero HE.out).1.bounds
  obtain ⟨h0, h1, h2, h3, h4, h5⟩ := (sumsE_zero HE.out).1
  obtain ⟨v0, v1, v2, v3⟩ := sq_bounds HV.out
  have E := Lib.hid (((Env.start w).lay #[.int .i64 n, .int .i64 s, .int .i64 q] 23).lay #[.int .i64 0, .int .i64 0, .int .i64 0] 23)
  go_enter Try.func5, Try.ntmps5
  go_wp2_with fail
  refine (check_is _ _ _ _ HE.out _).mono ?_
  rintro e' w1 ⟨rfl, hb1⟩
  have E1 := Lib.hid (E.out.below hb1)
  clear hb1
  have p0 := E1.out.hd.lt
  have p1 := E1.out.tl.hd.lt
  have b0 := E1.out.hd.cell 0
  have b1 := E1.out.hd.cell 1
  have b2 := E1.out.hd.cell 2
  have a0 := E1.out.tl.hd.cell 0
  have a1 := E1.out.tl.hd.cell 1
  have a2 := E1.out.tl.hd.cell 2
  have f0 := E1.out.hd.frozen 0
  have f1 := E1.out.hd.frozen 1
  have f2 := E1.out.hd.frozen 2
  simp at a0 a1 a2 b0 b1 b2 f0 f1 f2 p0 p1
  go_wp2_with (go_at_call 10; refine (wval_is _ _ HV.out _).mono ?_; rintro e w' ⟨rfl, rfl⟩)
  refine (check_is _ _ _ _ HL.out _).mono ?_
  rintro e' w2 ⟨rfl, hb2⟩
  have E2 := Lib.hid ((E1.out.lay _ _).below hb2)
  clear hb2 a0 a1 a2 b0 b1 b2 f0 f1 f2 p0 p1
  have p0 := E2.out.tl.hd.lt
  have p1 := E2.out.tl.tl.hd.lt
  have p2 := E2.out.hd.lt
  have c0 := E2.out.hd.cell 0
  have c1 := E2.out.hd.cell 1
  have c2 := E2.out.hd.cell 2
  have b0 := E2.out.tl.hd.cell 0
  have b1 := E2.out.tl.hd.cell 1
  have b2 := E2.out.tl.hd.cell 2
  have a0 := E2.out.tl.tl.hd.cell 0
  have a1 := E2.out.tl.tl.hd.cell 1
  have a2 := E2.out.tl.tl.hd.cell 2
  have f0 := E2.out.tl.hd.frozen 0
  have f1 := E2.out.tl.hd.frozen 1
  have f2 := E2.out.tl.hd.frozen 2
  simp at a0 a1 a2 b0 b1 b2 c0 c1 c2 f0 f1 f2 p0 p1 p2
  go_wp2
  refine bodyPost_ret (v := .tuple #[.agg #[.int .i64 0, .int .i64 0, .int .i64 0], .int .i64 4]) (by simp [results, Try.results5, go_sem, b0, b1, b2, a0, a1, a2, c0, c1, c2] <;> omega) rfl ⟨rfl, ?_⟩
  exact ((E2.out.bel.setCell (by simp <;> omega) _).setCell (by simp <;> omega) _).setCell (by simp <;> omega) _

set_option maxHeartbeats 2000000 in
set_option maxRecDepth 100000 in
theorem less_ok (n s q v : Int) (he : sumsE n s q = 0) (hv : wi v 0 16777216 = true) (hl : sumsE (n - 1) (s - v) (q - v * v) = 0) (w : World) :
    Calls Try.prog 5 #[.agg #[.int .i64 n, .int .i64 s, .int .i64 q], .int .i64 v] w fun e' w' => e' = .returned (.tuple #[.agg #[.int .i64 (n - 1), .int .i64 (s - v), .int .i64 (q - v * v)], .int .i64 0]) ∧ Below w.heap.size w w' := by
  have HE := Lib.hid he
  clear he
  have HV := Lib.hid hv
  clear hv
  have HL := Lib.hid hl
  clear hl
  obtain ⟨b1, b2, -, -, -, -⟩ := (sumsE_zero HE.out).1.bounds
  obtain ⟨h0, h1, h2, h3, h4, h5⟩ := (sumsE_zero HE.out).1
  obtain ⟨v0, v1, v2, v3⟩ := sq_bounds HV.out
  have E := Lib.hid (((Env.start w).lay #[.int .i64 n, .int .i64 s, .int .i64 q] 23).lay #[.int .i64 0, .int .i64 0, .int .i64 0] 23)
  go_enter Try.func5, Try.ntmps5
  go_wp2_with fail
  refine (check_is _ _ _ _ HE.out _).mono ?_
  rintro e' w1 ⟨rfl, hb1⟩
  have E1 := Lib.hid (E.out.below hb1)
  clear hb1
  have p0 := E1.out.hd.lt
  have p1 := E1.out.tl.hd.lt
  have b0 := E1.out.hd.cell 0
  have b1 := E1.out.hd.cell 1
  have b2 := E1.out.hd.cell 2
  have a0 := E1.out.tl.hd.cell 0
  have a1 := E1.out.tl.hd.cell 1
  have a2 := E1.out.tl.hd.cell 2
  have f0 := E1.out.hd.frozen 0
  have f1 := E1.out.hd.frozen 1
  have f2 := E1.out.hd.frozen 2
  simp at a0 a1 a2 b0 b1 b2 f0 f1 f2 p0 p1
  go_wp2_with (go_at_call 10; refine (wval_is _ _ HV.out _).mono ?_; rintro e w' ⟨rfl, rfl⟩)
  refine (check_is _ _ _ _ HL.out _).mono ?_
  rintro e' w2 ⟨rfl, hb2⟩
  have E2 := Lib.hid ((E1.out.lay _ _).below hb2)
  clear hb2 a0 a1 a2 b0 b1 b2 f0 f1 f2 p0 p1
  have p0 := E2.out.tl.hd.lt
  have p1 := E2.out.tl.tl.hd.lt
  have p2 := E2.out.hd.lt
  have c0 := E2.out.hd.cell 0
  have c1 := E2.out.hd.cell 1
  have c2 := E2.out.hd.cell 2
  have b0 := E2.out.tl.hd.cell 0
  have b1 := E2.out.tl.hd.cell 1
  have b2 := E2.out.tl.hd.cell 2
  have a0 := E2.out.tl.tl.hd.cell 0
  have a1 := E2.out.tl.tl.hd.cell 1
  have a2 := E2.out.tl.tl.hd.cell 2
  have f0 := E2.out.tl.hd.frozen 0
  have f1 := E2.out.tl.hd.frozen 1
  have f2 := E2.out.tl.hd.frozen 2
  simp at a0 a1 a2 b0 b1 b2 c0 c1 c2 f0 f1 f2 p0 p1 p2
  go_wp2
  refine bodyPost_ret (v := .tuple #[.agg #[.int .i64 (n - 1), .int .i64 (s - v), .int .i64 (q - v * v)], .int .i64 0]) (by simp [results, Try.results5, go_sem, b0, b1, b2, a0, a1, a2, c0, c1, c2] <;> omega) rfl ⟨rfl, ?_⟩
  exact ((E2.out.bel.setCell (by simp <;> omega) _).setCell (by simp <;> omega) _).setCell (by simp <;> omega) _

set_option maxHeartbeats 2000000 in
set_option maxRecDepth 100000 in
theorem join_err1 (n s q n' s' q' : Int) (e : Int) (he : sumsE n s q = e) (hn : e ≠ 0) (w : World) :
    Calls Try.prog 6 #[.agg #[.int .i64 n, .int .i64 s, .int .i64 q], .agg #[.int .i64 n', .int .i64 s', .int .i64 q']] w fun e' w' => e' = .returned (.tuple #[.agg #[.int .i64 0, .int .i64 0, .int .i64 0], .int .i64 e]) ∧ Below w.heap.size w w' := by
  have HE := Lib.hid he
  clear he
  have E := Lib.hid ((((Env.start w).lay #[.int .i64 n, .int .i64 s, .int .i64 q] 23).lay #[.int .i64 n', .int .i64 s', .int .i64 q'] 23).lay #[.int .i64 0, .int .i64 0, .int .i64 0] 23)
  go_enter Try.func6, Try.ntmps6
  go_wp2_with fail
  refine (check_is _ _ _ _ HE.out _).mono ?_
  rintro e' w1 ⟨rfl, hb1⟩
  have E1 := Lib.hid (E.out.below hb1)
  clear hb1
  have p0 := E1.out.hd.lt
  have p1 := E1.out.tl.hd.lt
  have p2 := E1.out.tl.tl.hd.lt
  have b0 := E1.out.hd.cell 0
  have b1 := E1.out.hd.cell 1
  have b2 := E1.out.hd.cell 2
  have c0 := E1.out.tl.hd.cell 0
  have c1 := E1.out.tl.hd.cell 1
  have c2 := E1.out.tl.hd.cell 2
  have a0 := E1.out.tl.tl.hd.cell 0
  have a1 := E1.out.tl.tl.hd.cell 1
  have a2 := E1.out.tl.tl.hd.cell 2
  have f0 := E1.out.hd.frozen 0
  have f1 := E1.out.hd.frozen 1
  have f2 := E1.out.hd.frozen 2
  simp at a0 a1 a2 b0 b1 b2 c0 c1 c2 f0 f1 f2 p0 p1 p2
  go_wp2
  refine bodyPost_ret (v := .tuple #[.agg #[.int .i64 0, .int .i64 0, .int .i64 0], .int .i64 e]) (by simp [results, Try.results6, go_sem, b0, b1, b2, a0, a1, a2, c0, c1, c2] <;> omega) rfl ⟨rfl, ?_⟩
  exact ((E1.out.bel.setCell (by simp <;> omega) _).setCell (by simp <;> omega) _).setCell (by simp <;> omega) _

set_option maxHeartbeats 2000000 in
set_option maxRecDepth 100000 in
theorem join_err2 (n s q n' s' q' : Int) (he : sumsE n s q = 0) (e : Int) (hf : sumsE n' s' q' = e) (hn : e ≠ 0) (w : World) :
    Calls Try.prog 6 #[.agg #[.int .i64 n, .int .i64 s, .int .i64 q], .agg #[.int .i64 n', .int .i64 s', .int .i64 q']] w fun e' w' => e' = .returned (.tuple #[.agg #[.int .i64 0, .int .i64 0, .int .i64 0], .int .i64 e]) ∧ Below w.heap.size w w' := by
  have HE := Lib.hid he
  clear he
  have HF := Lib.hid hf
  clear hf
  have E := Lib.hid ((((Env.start w).lay #[.int .i64 n, .int .i64 s, .int .i64 q] 23).lay #[.int .i64 n', .int .i64 s', .int .i64 q'] 23).lay #[.int .i64 0, .int .i64 0, .int .i64 0] 23)
  go_enter Try.func6, Try.ntmps6
  go_wp2_with fail
  refine (check_is _ _ _ _ HE.out _).mono ?_
  rintro e' w1 ⟨rfl, hb1⟩
  have E1 := Lib.hid (E.out.below hb1)
  clear hb1
  have p0 := E1.out.hd.lt
  have p1 := E1.out.tl.hd.lt
  have p2 := E1.out.tl.tl.hd.lt
  have b0 := E1.out.hd.cell 0
  have b1 := E1.out.hd.cell 1
  have b2 := E1.out.hd.cell 2
  have c0 := E1.out.tl.hd.cell 0
  have c1 := E1.out.tl.hd.cell 1
  have c2 := E1.out.tl.hd.cell 2
  have a0 := E1.out.tl.tl.hd.cell 0
  have a1 := E1.out.tl.tl.hd.cell 1
  have a2 := E1.out.tl.tl.hd.cell 2
  have f0 := E1.out.hd.frozen 0
  have f1 := E1.out.hd.frozen 1
  have f2 := E1.out.hd.frozen 2
  simp at a0 a1 a2 b0 b1 b2 c0 c1 c2 f0 f1 f2 p0 p1 p2
  go_wp2_with fail
  refine (check_is _ _ _ _ HF.out _).mono ?_
  rintro e' w2 ⟨rfl, hb2⟩
  have E2 := Lib.hid (E1.out.below hb2)
  clear hb2 a0 a1 a2 b0 b1 b2 c0 c1 c2 f0 f1 f2 p0 p1 p2
  have p0 := E2.out.hd.lt
  have p1 := E2.out.tl.hd.lt
  have p2 := E2.out.tl.tl.hd.lt
  have b0 := E2.out.hd.cell 0
  have b1 := E2.out.hd.cell 1
  have b2 := E2.out.hd.cell 2
  have c0 := E2.out.tl.hd.cell 0
  have c1 := E2.out.tl.hd.cell 1
  have c2 := E2.out.tl.hd.cell 2
  have a0 := E2.out.tl.tl.hd.cell 0
  have a1 := E2.out.tl.tl.hd.cell 1
  have a2 := E2.out.tl.tl.hd.cell 2
  have f0 := E2.out.hd.frozen 0
  have f1 := E2.out.hd.frozen 1
  have f2 := E2.out.hd.frozen 2
  simp at a0 a1 a2 b0 b1 b2 c0 c1 c2 f0 f1 f2 p0 p1 p2
  go_wp2
  refine bodyPost_ret (v := .tuple #[.agg #[.int .i64 0, .int .i64 0, .int .i64 0], .int .i64 e]) (by simp [results, Try.results6, go_sem, b0, b1, b2, a0, a1, a2, c0, c1, c2] <;> omega) rfl ⟨rfl, ?_⟩
  exact ((E2.out.bel.setCell (by simp <;> omega) _).setCell (by simp <;> omega) _).setCell (by simp <;> omega) _

set_option maxHeartbeats 2000000 in
set_option maxRecDepth 100000 in
theorem join_large (n s q n' s' q' : Int) (he : sumsE n s q = 0) (hf : sumsE n' s' q' = 0) (hj : 64 < n + n') (w : World) :
    Calls Try.prog 6 #[.agg #[.int .i64 n, .int .i64 s, .int .i64 q], .agg #[.int .i64 n', .int .i64 s', .int .i64 q']] w fun e' w' => e' = .returned (.tuple #[.agg #[.int .i64 0, .int .i64 0, .int .i64 0], .int .i64 2]) ∧ Below w.heap.size w w' := by
  have HE := Lib.hid he
  clear he
  have HF := Lib.hid hf
  clear hf
  obtain ⟨b1, b2, -, -, -, -⟩ := (sumsE_zero HE.out).1.bounds
  obtain ⟨h0, h1, h2, h3, h4, h5⟩ := (sumsE_zero HE.out).1
  obtain ⟨b1', b2', -, -, -, -⟩ := (sumsE_zero HF.out).1.bounds
  obtain ⟨h0', h1', h2', h3', h4', h5'⟩ := (sumsE_zero HF.out).1
  have E := Lib.hid ((((Env.start w).lay #[.int .i64 n, .int .i64 s, .int .i64 q] 23).lay #[.int .i64 n', .int .i64 s', .int .i64 q'] 23).lay #[.int .i64 0, .int .i64 0, .int .i64 0] 23)
  go_enter Try.func6, Try.ntmps6
  go_wp2_with fail
  refine (check_is _ _ _ _ HE.out _).mono ?_
  rintro e' w1 ⟨rfl, hb1⟩
  have E1 := Lib.hid (E.out.below hb1)
  clear hb1
  have p0 := E1.out.hd.lt
  have p1 := E1.out.tl.hd.lt
  have p2 := E1.out.tl.tl.hd.lt
  have b0 := E1.out.hd.cell 0
  have b1 := E1.out.hd.cell 1
  have b2 := E1.out.hd.cell 2
  have c0 := E1.out.tl.hd.cell 0
  have c1 := E1.out.tl.hd.cell 1
  have c2 := E1.out.tl.hd.cell 2
  have a0 := E1.out.tl.tl.hd.cell 0
  have a1 := E1.out.tl.tl.hd.cell 1
  have a2 := E1.out.tl.tl.hd.cell 2
  have f0 := E1.out.hd.frozen 0
  have f1 := E1.out.hd.frozen 1
  have f2 := E1.out.hd.frozen 2
  simp at a0 a1 a2 b0 b1 b2 c0 c1 c2 f0 f1 f2 p0 p1 p2
  go_wp2_with fail
  refine (check_is _ _ _ _ HF.out _).mono ?_
  rintro e' w2 ⟨rfl, hb2⟩
  have E2 := Lib.hid (E1.out.below hb2)
  clear hb2 a0 a1 a2 b0 b1 b2 c0 c1 c2 f0 f1 f2 p0 p1 p2
  have p0 := E2.out.hd.lt
  have p1 := E2.out.tl.hd.lt
  have p2 := E2.out.tl.tl.hd.lt
  have b0 := E2.out.hd.cell 0
  have b1 := E2.out.hd.cell 1
  have b2 := E2.out.hd.cell 2
  have c0 := E2.out.tl.hd.cell 0
  have c1 := E2.out.tl.hd.cell 1
  have c2 := E2.out.tl.hd.cell 2
  have a0 := E2.out.tl.tl.hd.cell 0
  have a1 := E2.out.tl.tl.hd.cell 1
  have a2 := E2.out.tl.tl.hd.cell 2
  have f0 := E2.out.hd.frozen 0
  have f1 := E2.out.hd.frozen 1
  have f2 := E2.out.hd.frozen 2
  simp at a0 a1 a2 b0 b1 b2 c0 c1 c2 f0 f1 f2 p0 p1 p2
  go_wp2
  refine bodyPost_ret (v := .tuple #[.agg #[.int .i64 0, .int .i64 0, .int .i64 0], .int .i64 2]) (by simp [results, Try.results6, go_sem, b0, b1, b2, a0, a1, a2, c0, c1, c2] <;> omega) rfl ⟨rfl, ?_⟩
  exact ((E2.out.bel.setCell (by simp <;> omega) _).setCell (by simp <;> omega) _).setCell (by simp <;> omega) _

set_option maxHeartbeats 2000000 in
set_option maxRecDepth 100000 in
theorem join_ok (n s q n' s' q' : Int) (he : sumsE n s q = 0) (hf : sumsE n' s' q' = 0) (hj : n + n' ≤ 64) (w : World) :
    Calls Try.prog 6 #[.agg #[.int .i64 n, .int .i64 s, .int .i64 q], .agg #[.int .i64 n', .int .i64 s', .int .i64 q']] w fun e' w' => e' = .returned (.tuple #[.agg #[.int .i64 (n + n'), .int .i64 (s + s'), .int .i64 (q + q')], .int .i64 0]) ∧ Below w.heap.size w w' := by
  have HE := Lib.hid he
  clear he
  have HF := Lib.hid hf
  clear hf
  obtain ⟨b1, b2, -, -, -, -⟩ := (sumsE_zero HE.out).1.bounds
  obtain ⟨h0, h1, h2, h3, h4, h5⟩ := (sumsE_zero HE.out).1
  obtain ⟨b1', b2', -, -, -, -⟩ := (sumsE_zero HF.out).1.bounds
  obtain ⟨h0', h1', h2', h3', h4', h5'⟩ := (sumsE_zero HF.out).1
  have E := Lib.hid ((((Env.start w).lay #[.int .i64 n, .int .i64 s, .int .i64 q] 23).lay #[.int .i64 n', .int .i64 s', .int .i64 q'] 23).lay #[.int .i64 0, .int .i64 0, .int .i64 0] 23)
  go_enter Try.func6, Try.ntmps6
  go_wp2_with fail
  refine (check_is _ _ _ _ HE.out _).mono ?_
  rintro e' w1 ⟨rfl, hb1⟩
  have E1 := Lib.hid (E.out.below hb1)
  clear hb1
  have p0 := E1.out.hd.lt
  have p1 := E1.out.tl.hd.lt
  have p2 := E1.out.tl.tl.hd.lt
  have b0 := E1.out.hd.cell 0
  have b1 := E1.out.hd.cell 1
  have b2 := E1.out.hd.cell 2
  have c0 := E1.out.tl.hd.cell 0
  have c1 := E1.out.tl.hd.cell 1
  have c2 := E1.out.tl.hd.cell 2
  have a0 := E1.out.tl.tl.hd.cell 0
  have a1 := E1.out.tl.tl.hd.cell 1
  have a2 := E1.out.tl.tl.hd.cell 2
  have f0 := E1.out.hd.frozen 0
  have f1 := E1.out.hd.frozen 1
  have f2 := E1.out.hd.frozen 2
  simp at a0 a1 a2 b0 b1 b2 c0 c1 c2 f0 f1 f2 p0 p1 p2
  go_wp2_with fail
  refine (check_is _ _ _ _ HF.out _).mono ?_
  rintro e' w2 ⟨rfl, hb2⟩
  have E2 := Lib.hid (E1.out.below hb2)
  clear hb2 a0 a1 a2 b0 b1 b2 c0 c1 c2 f0 f1 f2 p0 p1 p2
  have p0 := E2.out.hd.lt
  have p1 := E2.out.tl.hd.lt
  have p2 := E2.out.tl.tl.hd.lt
  have b0 := E2.out.hd.cell 0
  have b1 := E2.out.hd.cell 1
  have b2 := E2.out.hd.cell 2
  have c0 := E2.out.tl.hd.cell 0
  have c1 := E2.out.tl.hd.cell 1
  have c2 := E2.out.tl.hd.cell 2
  have a0 := E2.out.tl.tl.hd.cell 0
  have a1 := E2.out.tl.tl.hd.cell 1
  have a2 := E2.out.tl.tl.hd.cell 2
  have f0 := E2.out.hd.frozen 0
  have f1 := E2.out.hd.frozen 1
  have f2 := E2.out.hd.frozen 2
  simp at a0 a1 a2 b0 b1 b2 c0 c1 c2 f0 f1 f2 p0 p1 p2
  go_wp2
  refine bodyPost_ret (v := .tuple #[.agg #[.int .i64 (n + n'), .int .i64 (s + s'), .int .i64 (q + q')], .int .i64 0]) (by simp [results, Try.results6, go_sem, b0, b1, b2, a0, a1, a2, c0, c1, c2] <;> omega) rfl ⟨rfl, ?_⟩
  exact ((E2.out.bel.setCell (by simp <;> omega) _).setCell (by simp <;> omega) _).setCell (by simp <;> omega) _
end Go.Proofs.Ytljnmginngodkae
