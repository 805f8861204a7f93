/- stat.Mean, Spread and the reference's Spread. -/
import Derived.Test.YtmgkkbmcdnhdeaeSumsD
namespace Go.Proofs.Ytmgkkbmcdnhdeae
open Go.RowKit
set_option linter.unusedSimpArgs false
set_option linter.unusedVariables false

set_option maxHeartbeats 1000000 in
theorem spread_err (n s q : Int) (e : Int) (he : sumsE n s q = e) (hn : e ≠ 0) (w : World) :
    Calls Try.prog 20 #[.agg #[.int .i64 n, .int .i64 s, .int .i64 q]] w fun e' w' => e' = .returned (.tuple #[.int .i64 (0), .int .i64 e]) ∧ Below w.heap.size w w' := by
  have HE := Lib.hid he
  clear he
  have E := Lib.hid ((Env.start w).lay #[.int .i64 n, .int .i64 s, .int .i64 q] 42)
  go_enter Try.func20, Try.ntmps20
  go_wp2_with fail
  refine (check_is _ _ _ _ HE.out _).mono ?_
  rintro e' w1 ⟨rfl, hb1⟩
  have E1 := Lib.hid (E.out.below hb1)
  clear hb1
  have p0 := E1.out.hd.lt
  have a0 := E1.out.hd.cell 0
  have a1 := E1.out.hd.cell 1
  have a2 := E1.out.hd.cell 2
  simp at a0 a1 a2 p0
  go_wp2
  refine bodyPost_ret (v := .tuple #[.int .i64 (0), .int .i64 e]) (by simp [results, Try.results20, go_sem] <;> omega) rfl ⟨rfl, E1.out.bel⟩

set_option maxHeartbeats 1000000 in
theorem spread_ok (n s q : Int) (he : sumsE n s q = 0) (w : World) :
    Calls Try.prog 20 #[.agg #[.int .i64 n, .int .i64 s, .int .i64 q]] w fun e' w' => e' = .returned (.tuple #[.int .i64 (n * q - s * s), .int .i64 0]) ∧ Below w.heap.size w w' := by
  have HE := Lib.hid he
  clear he
  obtain ⟨b1, b2, b3, b4, b5, b6⟩ := (sumsE_zero HE.out).1.bounds
  obtain ⟨h0, h1, h2, h3, h4, h5⟩ := (sumsE_zero HE.out).1
  have E := Lib.hid ((Env.start w).lay #[.int .i64 n, .int .i64 s, .int .i64 q] 42)
  go_enter Try.func20, Try.ntmps20
  go_wp2_with fail
  refine (check_is _ _ _ _ HE.out _).mono ?_
  rintro e' w1 ⟨rfl, hb1⟩
  have E1 := Lib.hid (E.out.below hb1)
  clear hb1
  have p0 := E1.out.hd.lt
  have a0 := E1.out.hd.cell 0
  have a1 := E1.out.hd.cell 1
  have a2 := E1.out.hd.cell 2
  simp at a0 a1 a2 p0
  go_wp2
  refine bodyPost_ret (v := .tuple #[.int .i64 (n * q - s * s), .int .i64 0]) (by simp [results, Try.results20, go_sem] <;> omega) rfl ⟨rfl, E1.out.bel⟩











end Go.Proofs.Ytmgkkbmcdnhdeae
