/- tail.Chebyshev and tail.Cantelli, walked. -/
import Derived.Test.YtignljfeihlanaaTailA
import Derived.Test.YtignljfeihlanaaStatS
import Derived.Test.YtignljfeihlanaaTimes
import Derived.Test.YtignljfeihlanaaDivC
import Derived.Deep.DeepCutAuto
namespace Go.Proofs.Ytignljfeihlanaa
open Go.RowKit
set_option linter.unusedSimpArgs false
set_option linter.unusedVariables false

set_option maxHeartbeats 1000000 in
theorem cheb_err (n s q t : Int) (e : Int) (he : sumsE n s q = e) (hn : e ≠ 0) (w : World) :
    Calls Try.prog 6 #[.agg #[.int .i64 n, .int .i64 s, .int .i64 q], .int .i64 t] w fun e' w' => e' = .returned (.tuple #[.int .i64 (0), .int .i64 e]) ∧ Below w.heap.size w w' := by
  have HE := Lib.hid he
  clear he
  have E := Lib.hid ((Env.start w).lay #[.int .i64 n, .int .i64 s, .int .i64 q] 24)
  go_enter Try.func6, Try.ntmps6
  go_wp2_with fail
  refine (check_is _ _ _ _ HE.out _).mono ?_
  rintro e' w1 ⟨rfl, hb1⟩
  have E1 := Lib.hid (E.out.below hb1)
  clear hb1
  go_wp2
  refine bodyPost_ret (v := .tuple #[.int .i64 (0), .int .i64 e]) (by simp [results, Try.results6, go_sem] <;> omega) rfl ⟨rfl, E1.out.bel⟩
set_option maxHeartbeats 1000000 in
theorem cheb_arg (n s q t : Int) (he : sumsE n s q = 0) (ht : t < 1 ∨ 1073741824 < t) (w : World) :
    Calls Try.prog 6 #[.agg #[.int .i64 n, .int .i64 s, .int .i64 q], .int .i64 t] w fun e' w' => e' = .returned (.tuple #[.int .i64 (0), .int .i64 1]) ∧ Below w.heap.size w w' := by
  have HE := Lib.hid he
  clear he
  have E := Lib.hid ((Env.start w).lay #[.int .i64 n, .int .i64 s, .int .i64 q] 24)
  go_enter Try.func6, Try.ntmps6
  go_wp2_with fail
  refine (check_is _ _ _ _ HE.out _).mono ?_
  rintro e' w1 ⟨rfl, hb1⟩
  have E1 := Lib.hid (E.out.below hb1)
  clear hb1
  go_wp2
  all_goals first
    | (exfalso; omega)
    | exact bodyPost_ret (v := .tuple #[.int .i64 (0), .int .i64 1]) (by simp [results, Try.results6, go_sem] <;> omega) rfl ⟨rfl, E1.out.bel⟩

set_option maxHeartbeats 1000000 in
theorem cant_err (n s q t : Int) (e : Int) (he : sumsE n s q = e) (hn : e ≠ 0) (w : World) :
    Calls Try.prog 7 #[.agg #[.int .i64 n, .int .i64 s, .int .i64 q], .int .i64 t] w fun e' w' => e' = .returned (.tuple #[.int .i64 (0), .int .i64 e]) ∧ Below w.heap.size w w' := by
  have HE := Lib.hid he
  clear he
  have E := Lib.hid ((Env.start w).lay #[.int .i64 n, .int .i64 s, .int .i64 q] 24)
  go_enter Try.func7, Try.ntmps7
  go_wp2_with fail
  refine (check_is _ _ _ _ HE.out _).mono ?_
  rintro e' w1 ⟨rfl, hb1⟩
  have E1 := Lib.hid (E.out.below hb1)
  clear hb1
  go_wp2
  refine bodyPost_ret (v := .tuple #[.int .i64 (0), .int .i64 e]) (by simp [results, Try.results7, go_sem] <;> omega) rfl ⟨rfl, E1.out.bel⟩
set_option maxHeartbeats 1000000 in
theorem cant_arg (n s q t : Int) (he : sumsE n s q = 0) (ht : t < 0 ∨ 1073741824 < t) (w : World) :
    Calls Try.prog 7 #[.agg #[.int .i64 n, .int .i64 s, .int .i64 q], .int .i64 t] w fun e' w' => e' = .returned (.tuple #[.int .i64 (0), .int .i64 1]) ∧ Below w.heap.size w w' := by
  have HE := Lib.hid he
  clear he
  have E := Lib.hid ((Env.start w).lay #[.int .i64 n, .int .i64 s, .int .i64 q] 24)
  go_enter Try.func7, Try.ntmps7
  go_wp2_with fail
  refine (check_is _ _ _ _ HE.out _).mono ?_
  rintro e' w1 ⟨rfl, hb1⟩
  have E1 := Lib.hid (E.out.below hb1)
  clear hb1
  go_wp2
  all_goals first
    | (exfalso; omega)
    | exact bodyPost_ret (v := .tuple #[.int .i64 (0), .int .i64 1]) (by simp [results, Try.results7, go_sem] <;> omega) rfl ⟨rfl, E1.out.bel⟩

set_option maxHeartbeats 1000000 in
theorem cheb_none (s q : Int) (d : Int) (he : sumsE 0 s q = 0) (ht0 : 1 ≤ d) (ht1 : d ≤ 1073741824) (w : World) :
    Calls Try.prog 6 #[.agg #[.int .i64 0, .int .i64 s, .int .i64 q], .int .i64 d] w fun e' w' => e' = .returned (.tuple #[.int .i64 0, .int .i64 0]) ∧ Below w.heap.size w w' := by
  have HE := Lib.hid he
  have E := Lib.hid ((Env.start w).lay #[.int .i64 0, .int .i64 s, .int .i64 q] 24)
  clear he
  go_enter Try.func6, Try.ntmps6
  go_wp2_with fail
  refine (check_is _ _ _ _ HE.out _).mono ?_
  rintro e' w1 ⟨rfl, hb1⟩
  have E1 := Lib.hid (E.out.below hb1)
  clear hb1
  have a0 := E1.out.hd.cell 0
  have p0 := E1.out.hd.lt
  simp at a0 p0
  go_wp2
  refine bodyPost_ret (v := .tuple #[.int .i64 (0), .int .i64 0]) (by simp [results, Try.results6, go_sem] <;> omega) rfl ⟨rfl, E1.out.bel⟩

theorem sums_nat {n s q : Int} (he : sumsE n s q = 0) : n ≤ 64 ∧ 0 ≤ s ∧ s ≤ 1073741824 ∧ 0 ≤ n * q - s * s ∧ n * q - s * s ≤ 1152921504606846976 := by
  obtain ⟨hA, hB⟩ := sumsE_zero he
  obtain ⟨b1, b2, b3, b4, b5, b6⟩ := hA.bounds
  obtain ⟨h0, h1, h2, h3, h4, h5⟩ := hA
  exact ⟨h1, h2, b1, by omega, by omega⟩

end Go.Proofs.Ytignljfeihlanaa
