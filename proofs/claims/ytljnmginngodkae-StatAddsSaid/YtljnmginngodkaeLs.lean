/- The law StatAdds, walked: one walk for each case of the answers. -/
import Derived.Test.YtljnmginngodkaeSadd
namespace Go.Proofs.Ytljnmginngodkae
open Go.RowKit
set_option linter.unusedSimpArgs false
set_option linter.unusedVariables false

set_option maxHeartbeats 4000000 in
set_option maxRecDepth 100000 in
theorem sa_err (n s q n' s' q' v : Int) (e : Int) (he : sumsE n s q = e) (hn : e ≠ 0) (w : World) :
    Calls Try.prog 3 #[.agg #[.int .i64 n, .int .i64 s, .int .i64 q], .agg #[.int .i64 n', .int .i64 s', .int .i64 q'], .int .i64 v] w fun e' w' => e' = .returned (.bool true) ∧ Below w.heap.size w w' := by
  have HE := Lib.hid he
  clear he
  have E := Lib.hid (((Env.start w).lay #[.int .i64 n, .int .i64 s, .int .i64 q] 23).lay #[.int .i64 n', .int .i64 s', .int .i64 q'] 23)
  simp only [World.size_alloc] at E
  go_enter Try.func3, Try.ntmps3
  go_wp2_with fail
  refine (add_err _ _ _ _ _ HE.out hn _).mono ?_
  rintro e' w1 ⟨rfl, hb1⟩
  have E1 := Lib.hid (E.out.below hb1)
  clear hb1
  have p0 := E1.out.hd.lt
  have c0 := E1.out.hd.cell 0
  have c1 := E1.out.hd.cell 1
  have c2 := E1.out.hd.cell 2
  have p1 := E1.out.tl.hd.lt
  have a0 := E1.out.tl.hd.cell 0
  have a1 := E1.out.tl.hd.cell 1
  have a2 := E1.out.tl.hd.cell 2
  simp at c0 c1 c2 a0 a1 a2 p0 p1
  go_wp2_with fail
  refine (less_err _ _ _ _ _ HE.out hn _).mono ?_
  rintro e' w2 ⟨rfl, hb2⟩
  have E2 := Lib.hid ((E1.out.lay _ _).below hb2)
  clear hb2 c0 c1 c2 a0 a1 a2 p0 p1
  have p0 := E2.out.hd.lt
  have x0 := E2.out.hd.cell 0
  have x1 := E2.out.hd.cell 1
  have x2 := E2.out.hd.cell 2
  have p1 := E2.out.tl.hd.lt
  have c0 := E2.out.tl.hd.cell 0
  have c1 := E2.out.tl.hd.cell 1
  have c2 := E2.out.tl.hd.cell 2
  have p2 := E2.out.tl.tl.hd.lt
  have a0 := E2.out.tl.tl.hd.cell 0
  have a1 := E2.out.tl.tl.hd.cell 1
  have a2 := E2.out.tl.tl.hd.cell 2
  simp at x0 x1 x2 c0 c1 c2 a0 a1 a2 p0 p1 p2
  go_wp2_with fail
  refine (join_err1 _ _ _ _ _ _ _ HE.out hn _).mono ?_
  rintro e' w3 ⟨rfl, hb3⟩
  have E3 := Lib.hid ((E2.out.lay _ _).below hb3)
  clear hb3 x0 x1 x2 c0 c1 c2 a0 a1 a2 p0 p1 p2
  go_wp2_with fail
  generalize hW : (w3.alloc (.cells #[.int .i64 0, .int .i64 0, .int .i64 0] 23)) = W2
  have e3 := E3.out.lay #[.int .i64 0, .int .i64 0, .int .i64 0] 23
  rw [hW] at e3
  have E4 := Lib.hid e3
  clear e3 hW
  have HS := Lib.hid (show ∀ w', Below W2.heap.size W2 w' → (Below W2.heap.size W2 w' ∧ w'.cell? ⟨w.heap.size, 0, none⟩ = some (.int .i64 n) ∧ w'.cell? ⟨w.heap.size, 1, none⟩ = some (.int .i64 s) ∧ w'.cell? ⟨w.heap.size, 2, none⟩ = some (.int .i64 q))
    from fun w' e8 => ⟨e8, (E4.out.below e8).tl.tl.tl.tl.hd.cell 0, (E4.out.below e8).tl.tl.tl.tl.hd.cell 1, (E4.out.below e8).tl.tl.tl.tl.hd.cell 2⟩)
  have tok1 : True := trivial
  go_region_held3 (fun w' => Below W2.heap.size W2 w' ∧ w'.cell? ⟨w.heap.size, 0, none⟩ = some (.int .i64 n) ∧ w'.cell? ⟨w.heap.size, 1, none⟩ = some (.int .i64 s) ∧ w'.cell? ⟨w.heap.size, 2, none⟩ = some (.int .i64 q))
    ((refine HS.out _ ?_; first | exact (Below.refl _ _).drew | exact And.left (by assumption) | exact Below.trans (And.left (by assumption)) (Below.mono hb5 (Below.size (And.left (by assumption)))) | exact Below.trans (And.left (by assumption)) (Below.mono hb4 (Below.size (And.left (by assumption))))))
    (first
      | (go_at_call 7; have _t := tok1; refine (rsums_is _ _ _ _ HE.out _).mono ?_; rintro e' w4 ⟨rfl, hb4⟩; clear tok1 _t)
      | (go_at_call 7; refine (rsums_is _ _ _ _ HE.out _).mono ?_; rintro e' w5 ⟨rfl, hb5⟩))
  rename_i hheld
  have E5 := Lib.hid (E4.out.below hheld.1)
  clear hheld
  have p0 := E5.out.hd.lt
  have z0 := E5.out.hd.cell 0
  have z1 := E5.out.hd.cell 1
  have z2 := E5.out.hd.cell 2
  have p1 := E5.out.tl.hd.lt
  have y0 := E5.out.tl.hd.cell 0
  have y1 := E5.out.tl.hd.cell 1
  have y2 := E5.out.tl.hd.cell 2
  have p2 := E5.out.tl.tl.hd.lt
  have x0 := E5.out.tl.tl.hd.cell 0
  have x1 := E5.out.tl.tl.hd.cell 1
  have x2 := E5.out.tl.tl.hd.cell 2
  have p3 := E5.out.tl.tl.tl.hd.lt
  have c0 := E5.out.tl.tl.tl.hd.cell 0
  have c1 := E5.out.tl.tl.tl.hd.cell 1
  have c2 := E5.out.tl.tl.tl.hd.cell 2
  have p4 := E5.out.tl.tl.tl.tl.hd.lt
  have a0 := E5.out.tl.tl.tl.tl.hd.cell 0
  have a1 := E5.out.tl.tl.tl.tl.hd.cell 1
  have a2 := E5.out.tl.tl.tl.tl.hd.cell 2
  simp at z0 z1 z2 y0 y1 y2 x0 x1 x2 c0 c1 c2 a0 a1 a2 p0 p1 p2 p3 p4
  go_wp2
  go_ret
  exact ⟨rfl, E5.out.bel⟩

set_option maxHeartbeats 4000000 in
set_option maxRecDepth 100000 in
theorem sa_val_f (n s q n' s' q' v : Int) (he : sumsE n s q = 0) (hv : wi v 0 16777216 = false) (e : Int) (hf : sumsE n' s' q' = e) (hn : e ≠ 0) (w : World) :
    Calls Try.prog 3 #[.agg #[.int .i64 n, .int .i64 s, .int .i64 q], .agg #[.int .i64 n', .int .i64 s', .int .i64 q'], .int .i64 v] w fun e' w' => e' = .returned (.bool true) ∧ Below w.heap.size w w' := by
  have HE := Lib.hid he
  clear he
  have HV := Lib.hid hv
  clear hv
  have HF := Lib.hid hf
  clear hf
  obtain ⟨b1, b2, -, -, -, -⟩ := (sumsE_zero HE.out).1.bounds
  obtain ⟨h0, h1, h2, h3, h4, h5⟩ := (sumsE_zero HE.out).1
  have E := Lib.hid (((Env.start w).lay #[.int .i64 n, .int .i64 s, .int .i64 q] 23).lay #[.int .i64 n', .int .i64 s', .int .i64 q'] 23)
  simp only [World.size_alloc] at E
  go_enter Try.func3, Try.ntmps3
  go_wp2_with fail
  refine (add_val _ _ _ _ HE.out HV.out _).mono ?_
  rintro e' w1 ⟨rfl, hb1⟩
  have E1 := Lib.hid (E.out.below hb1)
  clear hb1
  have p0 := E1.out.hd.lt
  have c0 := E1.out.hd.cell 0
  have c1 := E1.out.hd.cell 1
  have c2 := E1.out.hd.cell 2
  have p1 := E1.out.tl.hd.lt
  have a0 := E1.out.tl.hd.cell 0
  have a1 := E1.out.tl.hd.cell 1
  have a2 := E1.out.tl.hd.cell 2
  simp at c0 c1 c2 a0 a1 a2 p0 p1
  go_wp2_with fail
  refine (less_val _ _ _ _ HE.out HV.out _).mono ?_
  rintro e' w2 ⟨rfl, hb2⟩
  have E2 := Lib.hid ((E1.out.lay _ _).below hb2)
  clear hb2 c0 c1 c2 a0 a1 a2 p0 p1
  have p0 := E2.out.hd.lt
  have x0 := E2.out.hd.cell 0
  have x1 := E2.out.hd.cell 1
  have x2 := E2.out.hd.cell 2
  have p1 := E2.out.tl.hd.lt
  have c0 := E2.out.tl.hd.cell 0
  have c1 := E2.out.tl.hd.cell 1
  have c2 := E2.out.tl.hd.cell 2
  have p2 := E2.out.tl.tl.hd.lt
  have a0 := E2.out.tl.tl.hd.cell 0
  have a1 := E2.out.tl.tl.hd.cell 1
  have a2 := E2.out.tl.tl.hd.cell 2
  simp at x0 x1 x2 c0 c1 c2 a0 a1 a2 p0 p1 p2
  go_wp2_with fail
  refine (join_err2 _ _ _ _ _ _ HE.out _ HF.out hn _).mono ?_
  rintro e' w3 ⟨rfl, hb3⟩
  have E3 := Lib.hid ((E2.out.lay _ _).below hb3)
  clear hb3 x0 x1 x2 c0 c1 c2 a0 a1 a2 p0 p1 p2
  go_wp2_with fail
  generalize hW : (w3.alloc (.cells #[.int .i64 0, .int .i64 0, .int .i64 0] 23)) = W2
  have e3 := E3.out.lay #[.int .i64 0, .int .i64 0, .int .i64 0] 23
  rw [hW] at e3
  have E4 := Lib.hid e3
  clear e3 hW
  have HS := Lib.hid (show ∀ w', Below W2.heap.size W2 w' → (Below W2.heap.size W2 w' ∧ w'.cell? ⟨w.heap.size, 0, none⟩ = some (.int .i64 n) ∧ w'.cell? ⟨w.heap.size, 1, none⟩ = some (.int .i64 s) ∧ w'.cell? ⟨w.heap.size, 2, none⟩ = some (.int .i64 q))
    from fun w' e8 => ⟨e8, (E4.out.below e8).tl.tl.tl.tl.hd.cell 0, (E4.out.below e8).tl.tl.tl.tl.hd.cell 1, (E4.out.below e8).tl.tl.tl.tl.hd.cell 2⟩)
  have tok1 : True := trivial
  go_region_held3 (fun w' => Below W2.heap.size W2 w' ∧ w'.cell? ⟨w.heap.size, 0, none⟩ = some (.int .i64 n) ∧ w'.cell? ⟨w.heap.size, 1, none⟩ = some (.int .i64 s) ∧ w'.cell? ⟨w.heap.size, 2, none⟩ = some (.int .i64 q))
    ((refine HS.out _ ?_; first | exact (Below.refl _ _).drew | exact And.left (by assumption) | exact Below.trans (And.left (by assumption)) (Below.mono hb5 (Below.size (And.left (by assumption)))) | exact Below.trans (And.left (by assumption)) (Below.mono hb4 (Below.size (And.left (by assumption))))))
    (first
      | (go_at_call 7; have _t := tok1; refine (rsums_is _ _ _ _ HE.out _).mono ?_; rintro e' w4 ⟨rfl, hb4⟩; clear tok1 _t)
      | (go_at_call 7; refine (rsums_is _ _ _ _ HE.out _).mono ?_; rintro e' w5 ⟨rfl, hb5⟩))
  rename_i hheld
  have E5 := Lib.hid (E4.out.below hheld.1)
  clear hheld
  have p0 := E5.out.hd.lt
  have z0 := E5.out.hd.cell 0
  have z1 := E5.out.hd.cell 1
  have z2 := E5.out.hd.cell 2
  have p1 := E5.out.tl.hd.lt
  have y0 := E5.out.tl.hd.cell 0
  have y1 := E5.out.tl.hd.cell 1
  have y2 := E5.out.tl.hd.cell 2
  have p2 := E5.out.tl.tl.hd.lt
  have x0 := E5.out.tl.tl.hd.cell 0
  have x1 := E5.out.tl.tl.hd.cell 1
  have x2 := E5.out.tl.tl.hd.cell 2
  have p3 := E5.out.tl.tl.tl.hd.lt
  have c0 := E5.out.tl.tl.tl.hd.cell 0
  have c1 := E5.out.tl.tl.tl.hd.cell 1
  have c2 := E5.out.tl.tl.tl.hd.cell 2
  have p4 := E5.out.tl.tl.tl.tl.hd.lt
  have a0 := E5.out.tl.tl.tl.tl.hd.cell 0
  have a1 := E5.out.tl.tl.tl.tl.hd.cell 1
  have a2 := E5.out.tl.tl.tl.tl.hd.cell 2
  simp at z0 z1 z2 y0 y1 y2 x0 x1 x2 c0 c1 c2 a0 a1 a2 p0 p1 p2 p3 p4
  go_wp2_with (go_at_call 8; refine (rval_is _ _ HV.out _).mono ?_; rintro e' w' ⟨rfl, rfl⟩)
  refine (rsums_is _ _ _ _ HF.out _).mono ?_
  rintro e' w6 ⟨rfl, hb6⟩
  have E6 := Lib.hid (E5.out.below hb6)
  clear hb6 z0 z1 z2 y0 y1 y2 x0 x1 x2 c0 c1 c2 a0 a1 a2 p0 p1 p2 p3 p4
  have p0 := E6.out.hd.lt
  have z0 := E6.out.hd.cell 0
  have z1 := E6.out.hd.cell 1
  have z2 := E6.out.hd.cell 2
  have p1 := E6.out.tl.hd.lt
  have y0 := E6.out.tl.hd.cell 0
  have y1 := E6.out.tl.hd.cell 1
  have y2 := E6.out.tl.hd.cell 2
  have p2 := E6.out.tl.tl.hd.lt
  have x0 := E6.out.tl.tl.hd.cell 0
  have x1 := E6.out.tl.tl.hd.cell 1
  have x2 := E6.out.tl.tl.hd.cell 2
  have p3 := E6.out.tl.tl.tl.hd.lt
  have c0 := E6.out.tl.tl.tl.hd.cell 0
  have c1 := E6.out.tl.tl.tl.hd.cell 1
  have c2 := E6.out.tl.tl.tl.hd.cell 2
  have p4 := E6.out.tl.tl.tl.tl.hd.lt
  have a0 := E6.out.tl.tl.tl.tl.hd.cell 0
  have a1 := E6.out.tl.tl.tl.tl.hd.cell 1
  have a2 := E6.out.tl.tl.tl.tl.hd.cell 2
  simp at z0 z1 z2 y0 y1 y2 x0 x1 x2 c0 c1 c2 a0 a1 a2 p0 p1 p2 p3 p4
  go_wp2
  go_ret
  exact ⟨rfl, E6.out.bel⟩

set_option maxHeartbeats 4000000 in
set_option maxRecDepth 100000 in
theorem sa_fun (n s q n' s' q' v : Int) (he : sumsE n s q = 0) (hv : wi v 0 16777216 = true) (e : Int) (hf : sumsE n' s' q' = e) (hn : e ≠ 0) (hu : 64 ≤ n) (l : Int) (hl : sumsE (n - 1) (s - v) (q - v * v) = l) (hm : l ≠ 0) (w : World) :
    Calls Try.prog 3 #[.agg #[.int .i64 n, .int .i64 s, .int .i64 q], .agg #[.int .i64 n', .int .i64 s', .int .i64 q'], .int .i64 v] w fun e' w' => e' = .returned (.bool true) ∧ Below w.heap.size w w' := by
  have HE := Lib.hid he
  clear he
  have HV := Lib.hid hv
  clear hv
  have HL := Lib.hid hl
  clear hl
  have HF := Lib.hid hf
  clear hf
  obtain ⟨b1, b2, -, -, -, -⟩ := (sumsE_zero HE.out).1.bounds
  obtain ⟨h0, h1, h2, h3, h4, h5⟩ := (sumsE_zero HE.out).1
  obtain ⟨v0, v1, v2, v3⟩ := sq_bounds HV.out
  have E := Lib.hid (((Env.start w).lay #[.int .i64 n, .int .i64 s, .int .i64 q] 23).lay #[.int .i64 n', .int .i64 s', .int .i64 q'] 23)
  simp only [World.size_alloc] at E
  go_enter Try.func3, Try.ntmps3
  go_wp2_with fail
  refine (add_full _ _ _ _ HE.out HV.out hu _).mono ?_
  rintro e' w1 ⟨rfl, hb1⟩
  have E1 := Lib.hid (E.out.below hb1)
  clear hb1
  have p0 := E1.out.hd.lt
  have c0 := E1.out.hd.cell 0
  have c1 := E1.out.hd.cell 1
  have c2 := E1.out.hd.cell 2
  have p1 := E1.out.tl.hd.lt
  have a0 := E1.out.tl.hd.cell 0
  have a1 := E1.out.tl.hd.cell 1
  have a2 := E1.out.tl.hd.cell 2
  simp at c0 c1 c2 a0 a1 a2 p0 p1
  go_wp2_with fail
  refine (less_none _ _ _ _ HE.out HV.out _ HL.out hm _).mono ?_
  rintro e' w2 ⟨rfl, hb2⟩
  have E2 := Lib.hid ((E1.out.lay _ _).below hb2)
  clear hb2 c0 c1 c2 a0 a1 a2 p0 p1
  have p0 := E2.out.hd.lt
  have x0 := E2.out.hd.cell 0
  have x1 := E2.out.hd.cell 1
  have x2 := E2.out.hd.cell 2
  have p1 := E2.out.tl.hd.lt
  have c0 := E2.out.tl.hd.cell 0
  have c1 := E2.out.tl.hd.cell 1
  have c2 := E2.out.tl.hd.cell 2
  have p2 := E2.out.tl.tl.hd.lt
  have a0 := E2.out.tl.tl.hd.cell 0
  have a1 := E2.out.tl.tl.hd.cell 1
  have a2 := E2.out.tl.tl.hd.cell 2
  simp at x0 x1 x2 c0 c1 c2 a0 a1 a2 p0 p1 p2
  go_wp2_with fail
  refine (join_err2 _ _ _ _ _ _ HE.out _ HF.out hn _).mono ?_
  rintro e' w3 ⟨rfl, hb3⟩
  have E3 := Lib.hid ((E2.out.lay _ _).below hb3)
  clear hb3 x0 x1 x2 c0 c1 c2 a0 a1 a2 p0 p1 p2
  go_wp2_with fail
  generalize hW : (w3.alloc (.cells #[.int .i64 0, .int .i64 0, .int .i64 0] 23)) = W2
  have e3 := E3.out.lay #[.int .i64 0, .int .i64 0, .int .i64 0] 23
  rw [hW] at e3
  have E4 := Lib.hid e3
  clear e3 hW
  have HS := Lib.hid (show ∀ w', Below W2.heap.size W2 w' → (Below W2.heap.size W2 w' ∧ w'.cell? ⟨w.heap.size, 0, none⟩ = some (.int .i64 n) ∧ w'.cell? ⟨w.heap.size, 1, none⟩ = some (.int .i64 s) ∧ w'.cell? ⟨w.heap.size, 2, none⟩ = some (.int .i64 q))
    from fun w' e8 => ⟨e8, (E4.out.below e8).tl.tl.tl.tl.hd.cell 0, (E4.out.below e8).tl.tl.tl.tl.hd.cell 1, (E4.out.below e8).tl.tl.tl.tl.hd.cell 2⟩)
  have tok1 : True := trivial
  go_region_held3 (fun w' => Below W2.heap.size W2 w' ∧ w'.cell? ⟨w.heap.size, 0, none⟩ = some (.int .i64 n) ∧ w'.cell? ⟨w.heap.size, 1, none⟩ = some (.int .i64 s) ∧ w'.cell? ⟨w.heap.size, 2, none⟩ = some (.int .i64 q))
    ((refine HS.out _ ?_; first | exact (Below.refl _ _).drew | exact And.left (by assumption) | exact Below.trans (And.left (by assumption)) (Below.mono hb5 (Below.size (And.left (by assumption)))) | exact Below.trans (And.left (by assumption)) (Below.mono hb4 (Below.size (And.left (by assumption))))))
    (first
      | (go_at_call 7; have _t := tok1; refine (rsums_is _ _ _ _ HE.out _).mono ?_; rintro e' w4 ⟨rfl, hb4⟩; clear tok1 _t)
      | (go_at_call 7; refine (rsums_is _ _ _ _ HE.out _).mono ?_; rintro e' w5 ⟨rfl, hb5⟩))
  rename_i hheld
  have E5 := Lib.hid (E4.out.below hheld.1)
  clear hheld
  have p0 := E5.out.hd.lt
  have z0 := E5.out.hd.cell 0
  have z1 := E5.out.hd.cell 1
  have z2 := E5.out.hd.cell 2
  have p1 := E5.out.tl.hd.lt
  have y0 := E5.out.tl.hd.cell 0
  have y1 := E5.out.tl.hd.cell 1
  have y2 := E5.out.tl.hd.cell 2
  have p2 := E5.out.tl.tl.hd.lt
  have x0 := E5.out.tl.tl.hd.cell 0
  have x1 := E5.out.tl.tl.hd.cell 1
  have x2 := E5.out.tl.tl.hd.cell 2
  have p3 := E5.out.tl.tl.tl.hd.lt
  have c0 := E5.out.tl.tl.tl.hd.cell 0
  have c1 := E5.out.tl.tl.tl.hd.cell 1
  have c2 := E5.out.tl.tl.tl.hd.cell 2
  have p4 := E5.out.tl.tl.tl.tl.hd.lt
  have a0 := E5.out.tl.tl.tl.tl.hd.cell 0
  have a1 := E5.out.tl.tl.tl.tl.hd.cell 1
  have a2 := E5.out.tl.tl.tl.tl.hd.cell 2
  simp at z0 z1 z2 y0 y1 y2 x0 x1 x2 c0 c1 c2 a0 a1 a2 p0 p1 p2 p3 p4
  go_wp2_with (go_at_call 8; refine (rval_is _ _ HV.out _).mono ?_; rintro e' w' ⟨rfl, rfl⟩)
  refine (rsums_is _ _ _ _ HF.out _).mono ?_
  rintro e' w6 ⟨rfl, hb6⟩
  have E6 := Lib.hid (E5.out.below hb6)
  clear hb6 z0 z1 z2 y0 y1 y2 x0 x1 x2 c0 c1 c2 a0 a1 a2 p0 p1 p2 p3 p4
  have p0 := E6.out.hd.lt
  have z0 := E6.out.hd.cell 0
  have z1 := E6.out.hd.cell 1
  have z2 := E6.out.hd.cell 2
  have p1 := E6.out.tl.hd.lt
  have y0 := E6.out.tl.hd.cell 0
  have y1 := E6.out.tl.hd.cell 1
  have y2 := E6.out.tl.hd.cell 2
  have p2 := E6.out.tl.tl.hd.lt
  have x0 := E6.out.tl.tl.hd.cell 0
  have x1 := E6.out.tl.tl.hd.cell 1
  have x2 := E6.out.tl.tl.hd.cell 2
  have p3 := E6.out.tl.tl.tl.hd.lt
  have c0 := E6.out.tl.tl.tl.hd.cell 0
  have c1 := E6.out.tl.tl.tl.hd.cell 1
  have c2 := E6.out.tl.tl.tl.hd.cell 2
  have p4 := E6.out.tl.tl.tl.tl.hd.lt
  have a0 := E6.out.tl.tl.tl.tl.hd.cell 0
  have a1 := E6.out.tl.tl.tl.tl.hd.cell 1
  have a2 := E6.out.tl.tl.tl.tl.hd.cell 2
  simp at z0 z1 z2 y0 y1 y2 x0 x1 x2 c0 c1 c2 a0 a1 a2 p0 p1 p2 p3 p4
  go_wp2_with fail
  refine (rsums_is _ _ _ _ HL.out _).mono ?_
  rintro e' w7 ⟨rfl, hb7⟩
  have E7 := Lib.hid ((E6.out.lay _ _).below hb7)
  clear hb7 z0 z1 z2 y0 y1 y2 x0 x1 x2 c0 c1 c2 a0 a1 a2 p0 p1 p2 p3 p4
  have p0 := E7.out.hd.lt
  have l0 := E7.out.hd.cell 0
  have l1 := E7.out.hd.cell 1
  have l2 := E7.out.hd.cell 2
  have p1 := E7.out.tl.hd.lt
  have z0 := E7.out.tl.hd.cell 0
  have z1 := E7.out.tl.hd.cell 1
  have z2 := E7.out.tl.hd.cell 2
  have p2 := E7.out.tl.tl.hd.lt
  have y0 := E7.out.tl.tl.hd.cell 0
  have y1 := E7.out.tl.tl.hd.cell 1
  have y2 := E7.out.tl.tl.hd.cell 2
  have p3 := E7.out.tl.tl.tl.hd.lt
  have x0 := E7.out.tl.tl.tl.hd.cell 0
  have x1 := E7.out.tl.tl.tl.hd.cell 1
  have x2 := E7.out.tl.tl.tl.hd.cell 2
  have p4 := E7.out.tl.tl.tl.tl.hd.lt
  have c0 := E7.out.tl.tl.tl.tl.hd.cell 0
  have c1 := E7.out.tl.tl.tl.tl.hd.cell 1
  have c2 := E7.out.tl.tl.tl.tl.hd.cell 2
  have p5 := E7.out.tl.tl.tl.tl.tl.hd.lt
  have a0 := E7.out.tl.tl.tl.tl.tl.hd.cell 0
  have a1 := E7.out.tl.tl.tl.tl.tl.hd.cell 1
  have a2 := E7.out.tl.tl.tl.tl.tl.hd.cell 2
  simp at l0 l1 l2 z0 z1 z2 y0 y1 y2 x0 x1 x2 c0 c1 c2 a0 a1 a2 p0 p1 p2 p3 p4 p5
  go_wp2
  go_ret
  exact ⟨rfl, E7.out.bel⟩

set_option maxHeartbeats 4000000 in
set_option maxRecDepth 100000 in
theorem sa_fuy (n s q n' s' q' v : Int) (he : sumsE n s q = 0) (hv : wi v 0 16777216 = true) (e : Int) (hf : sumsE n' s' q' = e) (hn : e ≠ 0) (hu : 64 ≤ n) (hl : sumsE (n - 1) (s - v) (q - v * v) = 0) (w : World) :
    Calls Try.prog 3 #[.agg #[.int .i64 n, .int .i64 s, .int .i64 q], .agg #[.int .i64 n', .int .i64 s', .int .i64 q'], .int .i64 v] w fun e' w' => e' = .returned (.bool true) ∧ Below w.heap.size w w' := by
  have HE := Lib.hid he
  clear he
  have HV := Lib.hid hv
  clear hv
  have HL := Lib.hid hl
  clear hl
  have HF := Lib.hid hf
  clear hf
  obtain ⟨b1, b2, -, -, -, -⟩ := (sumsE_zero HE.out).1.bounds
  obtain ⟨h0, h1, h2, h3, h4, h5⟩ := (sumsE_zero HE.out).1
  obtain ⟨v0, v1, v2, v3⟩ := sq_bounds HV.out
  have E := Lib.hid (((Env.start w).lay #[.int .i64 n, .int .i64 s, .int .i64 q] 23).lay #[.int .i64 n', .int .i64 s', .int .i64 q'] 23)
  simp only [World.size_alloc] at E
  go_enter Try.func3, Try.ntmps3
  go_wp2_with fail
  refine (add_full _ _ _ _ HE.out HV.out hu _).mono ?_
  rintro e' w1 ⟨rfl, hb1⟩
  have E1 := Lib.hid (E.out.below hb1)
  clear hb1
  have p0 := E1.out.hd.lt
  have c0 := E1.out.hd.cell 0
  have c1 := E1.out.hd.cell 1
  have c2 := E1.out.hd.cell 2
  have p1 := E1.out.tl.hd.lt
  have a0 := E1.out.tl.hd.cell 0
  have a1 := E1.out.tl.hd.cell 1
  have a2 := E1.out.tl.hd.cell 2
  simp at c0 c1 c2 a0 a1 a2 p0 p1
  go_wp2_with fail
  refine (less_ok _ _ _ _ HE.out HV.out HL.out _).mono ?_
  rintro e' w2 ⟨rfl, hb2⟩
  have E2 := Lib.hid ((E1.out.lay _ _).below hb2)
  clear hb2 c0 c1 c2 a0 a1 a2 p0 p1
  have p0 := E2.out.hd.lt
  have x0 := E2.out.hd.cell 0
  have x1 := E2.out.hd.cell 1
  have x2 := E2.out.hd.cell 2
  have p1 := E2.out.tl.hd.lt
  have c0 := E2.out.tl.hd.cell 0
  have c1 := E2.out.tl.hd.cell 1
  have c2 := E2.out.tl.hd.cell 2
  have p2 := E2.out.tl.tl.hd.lt
  have a0 := E2.out.tl.tl.hd.cell 0
  have a1 := E2.out.tl.tl.hd.cell 1
  have a2 := E2.out.tl.tl.hd.cell 2
  simp at x0 x1 x2 c0 c1 c2 a0 a1 a2 p0 p1 p2
  go_wp2_with fail
  refine (join_err2 _ _ _ _ _ _ HE.out _ HF.out hn _).mono ?_
  rintro e' w3 ⟨rfl, hb3⟩
  have E3 := Lib.hid ((E2.out.lay _ _).below hb3)
  clear hb3 x0 x1 x2 c0 c1 c2 a0 a1 a2 p0 p1 p2
  go_wp2_with fail
  generalize hW : (w3.alloc (.cells #[.int .i64 0, .int .i64 0, .int .i64 0] 23)) = W2
  have e3 := E3.out.lay #[.int .i64 0, .int .i64 0, .int .i64 0] 23
  rw [hW] at e3
  have E4 := Lib.hid e3
  clear e3 hW
  have HS := Lib.hid (show ∀ w', Below W2.heap.size W2 w' → (Below W2.heap.size W2 w' ∧ w'.cell? ⟨w.heap.size, 0, none⟩ = some (.int .i64 n) ∧ w'.cell? ⟨w.heap.size, 1, none⟩ = some (.int .i64 s) ∧ w'.cell? ⟨w.heap.size, 2, none⟩ = some (.int .i64 q))
    from fun w' e8 => ⟨e8, (E4.out.below e8).tl.tl.tl.tl.hd.cell 0, (E4.out.below e8).tl.tl.tl.tl.hd.cell 1, (E4.out.below e8).tl.tl.tl.tl.hd.cell 2⟩)
  have tok1 : True := trivial
  go_region_held3 (fun w' => Below W2.heap.size W2 w' ∧ w'.cell? ⟨w.heap.size, 0, none⟩ = some (.int .i64 n) ∧ w'.cell? ⟨w.heap.size, 1, none⟩ = some (.int .i64 s) ∧ w'.cell? ⟨w.heap.size, 2, none⟩ = some (.int .i64 q))
    ((refine HS.out _ ?_; first | exact (Below.refl _ _).drew | exact And.left (by assumption) | exact Below.trans (And.left (by assumption)) (Below.mono hb5 (Below.size (And.left (by assumption)))) | exact Below.trans (And.left (by assumption)) (Below.mono hb4 (Below.size (And.left (by assumption))))))
    (first
      | (go_at_call 7; have _t := tok1; refine (rsums_is _ _ _ _ HE.out _).mono ?_; rintro e' w4 ⟨rfl, hb4⟩; clear tok1 _t)
      | (go_at_call 7; refine (rsums_is _ _ _ _ HE.out _).mono ?_; rintro e' w5 ⟨rfl, hb5⟩))
  rename_i hheld
  have E5 := Lib.hid (E4.out.below hheld.1)
  clear hheld
  have p0 := E5.out.hd.lt
  have z0 := E5.out.hd.cell 0
  have z1 := E5.out.hd.cell 1
  have z2 := E5.out.hd.cell 2
  have p1 := E5.out.tl.hd.lt
  have y0 := E5.out.tl.hd.cell 0
  have y1 := E5.out.tl.hd.cell 1
  have y2 := E5.out.tl.hd.cell 2
  have p2 := E5.out.tl.tl.hd.lt
  have x0 := E5.out.tl.tl.hd.cell 0
  have x1 := E5.out.tl.tl.hd.cell 1
  have x2 := E5.out.tl.tl.hd.cell 2
  have p3 := E5.out.tl.tl.tl.hd.lt
  have c0 := E5.out.tl.tl.tl.hd.cell 0
  have c1 := E5.out.tl.tl.tl.hd.cell 1
  have c2 := E5.out.tl.tl.tl.hd.cell 2
  have p4 := E5.out.tl.tl.tl.tl.hd.lt
  have a0 := E5.out.tl.tl.tl.tl.hd.cell 0
  have a1 := E5.out.tl.tl.tl.tl.hd.cell 1
  have a2 := E5.out.tl.tl.tl.tl.hd.cell 2
  simp at z0 z1 z2 y0 y1 y2 x0 x1 x2 c0 c1 c2 a0 a1 a2 p0 p1 p2 p3 p4
  go_wp2_with (go_at_call 8; refine (rval_is _ _ HV.out _).mono ?_; rintro e' w' ⟨rfl, rfl⟩)
  refine (rsums_is _ _ _ _ HF.out _).mono ?_
  rintro e' w6 ⟨rfl, hb6⟩
  have E6 := Lib.hid (E5.out.below hb6)
  clear hb6 z0 z1 z2 y0 y1 y2 x0 x1 x2 c0 c1 c2 a0 a1 a2 p0 p1 p2 p3 p4
  have p0 := E6.out.hd.lt
  have z0 := E6.out.hd.cell 0
  have z1 := E6.out.hd.cell 1
  have z2 := E6.out.hd.cell 2
  have p1 := E6.out.tl.hd.lt
  have y0 := E6.out.tl.hd.cell 0
  have y1 := E6.out.tl.hd.cell 1
  have y2 := E6.out.tl.hd.cell 2
  have p2 := E6.out.tl.tl.hd.lt
  have x0 := E6.out.tl.tl.hd.cell 0
  have x1 := E6.out.tl.tl.hd.cell 1
  have x2 := E6.out.tl.tl.hd.cell 2
  have p3 := E6.out.tl.tl.tl.hd.lt
  have c0 := E6.out.tl.tl.tl.hd.cell 0
  have c1 := E6.out.tl.tl.tl.hd.cell 1
  have c2 := E6.out.tl.tl.tl.hd.cell 2
  have p4 := E6.out.tl.tl.tl.tl.hd.lt
  have a0 := E6.out.tl.tl.tl.tl.hd.cell 0
  have a1 := E6.out.tl.tl.tl.tl.hd.cell 1
  have a2 := E6.out.tl.tl.tl.tl.hd.cell 2
  simp at z0 z1 z2 y0 y1 y2 x0 x1 x2 c0 c1 c2 a0 a1 a2 p0 p1 p2 p3 p4
  go_wp2_with fail
  refine (rsums_is _ _ _ _ HL.out _).mono ?_
  rintro e' w7 ⟨rfl, hb7⟩
  have E7 := Lib.hid ((E6.out.lay _ _).below hb7)
  clear hb7 z0 z1 z2 y0 y1 y2 x0 x1 x2 c0 c1 c2 a0 a1 a2 p0 p1 p2 p3 p4
  have p0 := E7.out.hd.lt
  have l0 := E7.out.hd.cell 0
  have l1 := E7.out.hd.cell 1
  have l2 := E7.out.hd.cell 2
  have p1 := E7.out.tl.hd.lt
  have z0 := E7.out.tl.hd.cell 0
  have z1 := E7.out.tl.hd.cell 1
  have z2 := E7.out.tl.hd.cell 2
  have p2 := E7.out.tl.tl.hd.lt
  have y0 := E7.out.tl.tl.hd.cell 0
  have y1 := E7.out.tl.tl.hd.cell 1
  have y2 := E7.out.tl.tl.hd.cell 2
  have p3 := E7.out.tl.tl.tl.hd.lt
  have x0 := E7.out.tl.tl.tl.hd.cell 0
  have x1 := E7.out.tl.tl.tl.hd.cell 1
  have x2 := E7.out.tl.tl.tl.hd.cell 2
  have p4 := E7.out.tl.tl.tl.tl.hd.lt
  have c0 := E7.out.tl.tl.tl.tl.hd.cell 0
  have c1 := E7.out.tl.tl.tl.tl.hd.cell 1
  have c2 := E7.out.tl.tl.tl.tl.hd.cell 2
  have p5 := E7.out.tl.tl.tl.tl.tl.hd.lt
  have a0 := E7.out.tl.tl.tl.tl.tl.hd.cell 0
  have a1 := E7.out.tl.tl.tl.tl.tl.hd.cell 1
  have a2 := E7.out.tl.tl.tl.tl.tl.hd.cell 2
  simp at l0 l1 l2 z0 z1 z2 y0 y1 y2 x0 x1 x2 c0 c1 c2 a0 a1 a2 p0 p1 p2 p3 p4 p5
  go_wp2
  go_ret
  exact ⟨rfl, E7.out.bel⟩

set_option maxHeartbeats 4000000 in
set_option maxRecDepth 100000 in
theorem sa_fon (n s q n' s' q' v : Int) (he : sumsE n s q = 0) (hv : wi v 0 16777216 = true) (e : Int) (hf : sumsE n' s' q' = e) (hn : e ≠ 0) (hu : n < 64) (l : Int) (hl : sumsE (n - 1) (s - v) (q - v * v) = l) (hm : l ≠ 0) (w : World) :
    Calls Try.prog 3 #[.agg #[.int .i64 n, .int .i64 s, .int .i64 q], .agg #[.int .i64 n', .int .i64 s', .int .i64 q'], .int .i64 v] w fun e' w' => e' = .returned (.bool true) ∧ Below w.heap.size w w' := by
  have HE := Lib.hid he
  clear he
  have HV := Lib.hid hv
  clear hv
  have HL := Lib.hid hl
  clear hl
  have HF := Lib.hid hf
  clear hf
  obtain ⟨b1, b2, -, -, -, -⟩ := (sumsE_zero HE.out).1.bounds
  obtain ⟨h0, h1, h2, h3, h4, h5⟩ := (sumsE_zero HE.out).1
  obtain ⟨v0, v1, v2, v3⟩ := sq_bounds HV.out
  have E := Lib.hid (((Env.start w).lay #[.int .i64 n, .int .i64 s, .int .i64 q] 23).lay #[.int .i64 n', .int .i64 s', .int .i64 q'] 23)
  simp only [World.size_alloc] at E
  go_enter Try.func3, Try.ntmps3
  go_wp2_with fail
  refine (add_ok _ _ _ _ HE.out HV.out hu _).mono ?_
  rintro e' w1 ⟨rfl, hb1⟩
  have E1 := Lib.hid (E.out.below hb1)
  clear hb1
  have p0 := E1.out.hd.lt
  have c0 := E1.out.hd.cell 0
  have c1 := E1.out.hd.cell 1
  have c2 := E1.out.hd.cell 2
  have p1 := E1.out.tl.hd.lt
  have a0 := E1.out.tl.hd.cell 0
  have a1 := E1.out.tl.hd.cell 1
  have a2 := E1.out.tl.hd.cell 2
  simp at c0 c1 c2 a0 a1 a2 p0 p1
  go_wp2_with fail
  refine (less_none _ _ _ _ HE.out HV.out _ HL.out hm _).mono ?_
  rintro e' w2 ⟨rfl, hb2⟩
  have E2 := Lib.hid ((E1.out.lay _ _).below hb2)
  clear hb2 c0 c1 c2 a0 a1 a2 p0 p1
  have p0 := E2.out.hd.lt
  have x0 := E2.out.hd.cell 0
  have x1 := E2.out.hd.cell 1
  have x2 := E2.out.hd.cell 2
  have p1 := E2.out.tl.hd.lt
  have c0 := E2.out.tl.hd.cell 0
  have c1 := E2.out.tl.hd.cell 1
  have c2 := E2.out.tl.hd.cell 2
  have p2 := E2.out.tl.tl.hd.lt
  have a0 := E2.out.tl.tl.hd.cell 0
  have a1 := E2.out.tl.tl.hd.cell 1
  have a2 := E2.out.tl.tl.hd.cell 2
  simp at x0 x1 x2 c0 c1 c2 a0 a1 a2 p0 p1 p2
  go_wp2_with fail
  refine (join_err2 _ _ _ _ _ _ HE.out _ HF.out hn _).mono ?_
  rintro e' w3 ⟨rfl, hb3⟩
  have E3 := Lib.hid ((E2.out.lay _ _).below hb3)
  clear hb3 x0 x1 x2 c0 c1 c2 a0 a1 a2 p0 p1 p2
  go_wp2_with fail
  generalize hW : (w3.alloc (.cells #[.int .i64 0, .int .i64 0, .int .i64 0] 23)) = W2
  have e3 := E3.out.lay #[.int .i64 0, .int .i64 0, .int .i64 0] 23
  rw [hW] at e3
  have E4 := Lib.hid e3
  clear e3 hW
  have HS := Lib.hid (show ∀ w', Below W2.heap.size W2 w' → (Below W2.heap.size W2 w' ∧ w'.cell? ⟨w.heap.size, 0, none⟩ = some (.int .i64 n) ∧ w'.cell? ⟨w.heap.size, 1, none⟩ = some (.int .i64 s) ∧ w'.cell? ⟨w.heap.size, 2, none⟩ = some (.int .i64 q))
    from fun w' e8 => ⟨e8, (E4.out.below e8).tl.tl.tl.tl.hd.cell 0, (E4.out.below e8).tl.tl.tl.tl.hd.cell 1, (E4.out.below e8).tl.tl.tl.tl.hd.cell 2⟩)
  have tok1 : True := trivial
  go_region_held3 (fun w' => Below W2.heap.size W2 w' ∧ w'.cell? ⟨w.heap.size, 0, none⟩ = some (.int .i64 n) ∧ w'.cell? ⟨w.heap.size, 1, none⟩ = some (.int .i64 s) ∧ w'.cell? ⟨w.heap.size, 2, none⟩ = some (.int .i64 q))
    ((refine HS.out _ ?_; first | exact (Below.refl _ _).drew | exact And.left (by assumption) | exact Below.trans (And.left (by assumption)) (Below.mono hb5 (Below.size (And.left (by assumption)))) | exact Below.trans (And.left (by assumption)) (Below.mono hb4 (Below.size (And.left (by assumption))))))
    (first
      | (go_at_call 7; have _t := tok1; refine (rsums_is _ _ _ _ HE.out _).mono ?_; rintro e' w4 ⟨rfl, hb4⟩; clear tok1 _t)
      | (go_at_call 7; refine (rsums_is _ _ _ _ HE.out _).mono ?_; rintro e' w5 ⟨rfl, hb5⟩))
  rename_i hheld
  have E5 := Lib.hid (E4.out.below hheld.1)
  clear hheld
  have p0 := E5.out.hd.lt
  have z0 := E5.out.hd.cell 0
  have z1 := E5.out.hd.cell 1
  have z2 := E5.out.hd.cell 2
  have p1 := E5.out.tl.hd.lt
  have y0 := E5.out.tl.hd.cell 0
  have y1 := E5.out.tl.hd.cell 1
  have y2 := E5.out.tl.hd.cell 2
  have p2 := E5.out.tl.tl.hd.lt
  have x0 := E5.out.tl.tl.hd.cell 0
  have x1 := E5.out.tl.tl.hd.cell 1
  have x2 := E5.out.tl.tl.hd.cell 2
  have p3 := E5.out.tl.tl.tl.hd.lt
  have c0 := E5.out.tl.tl.tl.hd.cell 0
  have c1 := E5.out.tl.tl.tl.hd.cell 1
  have c2 := E5.out.tl.tl.tl.hd.cell 2
  have p4 := E5.out.tl.tl.tl.tl.hd.lt
  have a0 := E5.out.tl.tl.tl.tl.hd.cell 0
  have a1 := E5.out.tl.tl.tl.tl.hd.cell 1
  have a2 := E5.out.tl.tl.tl.tl.hd.cell 2
  simp at z0 z1 z2 y0 y1 y2 x0 x1 x2 c0 c1 c2 a0 a1 a2 p0 p1 p2 p3 p4
  go_wp2_with (go_at_call 8; refine (rval_is _ _ HV.out _).mono ?_; rintro e' w' ⟨rfl, rfl⟩)
  refine (rsums_is _ _ _ _ HF.out _).mono ?_
  rintro e' w6 ⟨rfl, hb6⟩
  have E6 := Lib.hid (E5.out.below hb6)
  clear hb6 z0 z1 z2 y0 y1 y2 x0 x1 x2 c0 c1 c2 a0 a1 a2 p0 p1 p2 p3 p4
  have p0 := E6.out.hd.lt
  have z0 := E6.out.hd.cell 0
  have z1 := E6.out.hd.cell 1
  have z2 := E6.out.hd.cell 2
  have p1 := E6.out.tl.hd.lt
  have y0 := E6.out.tl.hd.cell 0
  have y1 := E6.out.tl.hd.cell 1
  have y2 := E6.out.tl.hd.cell 2
  have p2 := E6.out.tl.tl.hd.lt
  have x0 := E6.out.tl.tl.hd.cell 0
  have x1 := E6.out.tl.tl.hd.cell 1
  have x2 := E6.out.tl.tl.hd.cell 2
  have p3 := E6.out.tl.tl.tl.hd.lt
  have c0 := E6.out.tl.tl.tl.hd.cell 0
  have c1 := E6.out.tl.tl.tl.hd.cell 1
  have c2 := E6.out.tl.tl.tl.hd.cell 2
  have p4 := E6.out.tl.tl.tl.tl.hd.lt
  have a0 := E6.out.tl.tl.tl.tl.hd.cell 0
  have a1 := E6.out.tl.tl.tl.tl.hd.cell 1
  have a2 := E6.out.tl.tl.tl.tl.hd.cell 2
  simp at z0 z1 z2 y0 y1 y2 x0 x1 x2 c0 c1 c2 a0 a1 a2 p0 p1 p2 p3 p4
  go_wp2_with fail
  refine (rsums_is _ _ _ _ HL.out _).mono ?_
  rintro e' w7 ⟨rfl, hb7⟩
  have E7 := Lib.hid ((E6.out.lay _ _).below hb7)
  clear hb7 z0 z1 z2 y0 y1 y2 x0 x1 x2 c0 c1 c2 a0 a1 a2 p0 p1 p2 p3 p4
  have p0 := E7.out.hd.lt
  have l0 := E7.out.hd.cell 0
  have l1 := E7.out.hd.cell 1
  have l2 := E7.out.hd.cell 2
  have p1 := E7.out.tl.hd.lt
  have z0 := E7.out.tl.hd.cell 0
  have z1 := E7.out.tl.hd.cell 1
  have z2 := E7.out.tl.hd.cell 2
  have p2 := E7.out.tl.tl.hd.lt
  have y0 := E7.out.tl.tl.hd.cell 0
  have y1 := E7.out.tl.tl.hd.cell 1
  have y2 := E7.out.tl.tl.hd.cell 2
  have p3 := E7.out.tl.tl.tl.hd.lt
  have x0 := E7.out.tl.tl.tl.hd.cell 0
  have x1 := E7.out.tl.tl.tl.hd.cell 1
  have x2 := E7.out.tl.tl.tl.hd.cell 2
  have p4 := E7.out.tl.tl.tl.tl.hd.lt
  have c0 := E7.out.tl.tl.tl.tl.hd.cell 0
  have c1 := E7.out.tl.tl.tl.tl.hd.cell 1
  have c2 := E7.out.tl.tl.tl.tl.hd.cell 2
  have p5 := E7.out.tl.tl.tl.tl.tl.hd.lt
  have a0 := E7.out.tl.tl.tl.tl.tl.hd.cell 0
  have a1 := E7.out.tl.tl.tl.tl.tl.hd.cell 1
  have a2 := E7.out.tl.tl.tl.tl.tl.hd.cell 2
  simp at l0 l1 l2 z0 z1 z2 y0 y1 y2 x0 x1 x2 c0 c1 c2 a0 a1 a2 p0 p1 p2 p3 p4 p5
  go_wp2
  go_ret
  exact ⟨rfl, E7.out.bel⟩

set_option maxHeartbeats 4000000 in
set_option maxRecDepth 100000 in
theorem sa_foy (n s q n' s' q' v : Int) (he : sumsE n s q = 0) (hv : wi v 0 16777216 = true) (e : Int) (hf : sumsE n' s' q' = e) (hn : e ≠ 0) (hu : n < 64) (hl : sumsE (n - 1) (s - v) (q - v * v) = 0) (w : World) :
    Calls Try.prog 3 #[.agg #[.int .i64 n, .int .i64 s, .int .i64 q], .agg #[.int .i64 n', .int .i64 s', .int .i64 q'], .int .i64 v] w fun e' w' => e' = .returned (.bool true) ∧ Below w.heap.size w w' := by
  have HE := Lib.hid he
  clear he
  have HV := Lib.hid hv
  clear hv
  have HL := Lib.hid hl
  clear hl
  have HF := Lib.hid hf
  clear hf
  obtain ⟨b1, b2, -, -, -, -⟩ := (sumsE_zero HE.out).1.bounds
  obtain ⟨h0, h1, h2, h3, h4, h5⟩ := (sumsE_zero HE.out).1
  obtain ⟨v0, v1, v2, v3⟩ := sq_bounds HV.out
  have E := Lib.hid (((Env.start w).lay #[.int .i64 n, .int .i64 s, .int .i64 q] 23).lay #[.int .i64 n', .int .i64 s', .int .i64 q'] 23)
  simp only [World.size_alloc] at E
  go_enter Try.func3, Try.ntmps3
  go_wp2_with fail
  refine (add_ok _ _ _ _ HE.out HV.out hu _).mono ?_
  rintro e' w1 ⟨rfl, hb1⟩
  have E1 := Lib.hid (E.out.below hb1)
  clear hb1
  have p0 := E1.out.hd.lt
  have c0 := E1.out.hd.cell 0
  have c1 := E1.out.hd.cell 1
  have c2 := E1.out.hd.cell 2
  have p1 := E1.out.tl.hd.lt
  have a0 := E1.out.tl.hd.cell 0
  have a1 := E1.out.tl.hd.cell 1
  have a2 := E1.out.tl.hd.cell 2
  simp at c0 c1 c2 a0 a1 a2 p0 p1
  go_wp2_with fail
  refine (less_ok _ _ _ _ HE.out HV.out HL.out _).mono ?_
  rintro e' w2 ⟨rfl, hb2⟩
  have E2 := Lib.hid ((E1.out.lay _ _).below hb2)
  clear hb2 c0 c1 c2 a0 a1 a2 p0 p1
  have p0 := E2.out.hd.lt
  have x0 := E2.out.hd.cell 0
  have x1 := E2.out.hd.cell 1
  have x2 := E2.out.hd.cell 2
  have p1 := E2.out.tl.hd.lt
  have c0 := E2.out.tl.hd.cell 0
  have c1 := E2.out.tl.hd.cell 1
  have c2 := E2.out.tl.hd.cell 2
  have p2 := E2.out.tl.tl.hd.lt
  have a0 := E2.out.tl.tl.hd.cell 0
  have a1 := E2.out.tl.tl.hd.cell 1
  have a2 := E2.out.tl.tl.hd.cell 2
  simp at x0 x1 x2 c0 c1 c2 a0 a1 a2 p0 p1 p2
  go_wp2_with fail
  refine (join_err2 _ _ _ _ _ _ HE.out _ HF.out hn _).mono ?_
  rintro e' w3 ⟨rfl, hb3⟩
  have E3 := Lib.hid ((E2.out.lay _ _).below hb3)
  clear hb3 x0 x1 x2 c0 c1 c2 a0 a1 a2 p0 p1 p2
  go_wp2_with fail
  generalize hW : (w3.alloc (.cells #[.int .i64 0, .int .i64 0, .int .i64 0] 23)) = W2
  have e3 := E3.out.lay #[.int .i64 0, .int .i64 0, .int .i64 0] 23
  rw [hW] at e3
  have E4 := Lib.hid e3
  clear e3 hW
  have HS := Lib.hid (show ∀ w', Below W2.heap.size W2 w' → (Below W2.heap.size W2 w' ∧ w'.cell? ⟨w.heap.size, 0, none⟩ = some (.int .i64 n) ∧ w'.cell? ⟨w.heap.size, 1, none⟩ = some (.int .i64 s) ∧ w'.cell? ⟨w.heap.size, 2, none⟩ = some (.int .i64 q))
    from fun w' e8 => ⟨e8, (E4.out.below e8).tl.tl.tl.tl.hd.cell 0, (E4.out.below e8).tl.tl.tl.tl.hd.cell 1, (E4.out.below e8).tl.tl.tl.tl.hd.cell 2⟩)
  have tok1 : True := trivial
  go_region_held3 (fun w' => Below W2.heap.size W2 w' ∧ w'.cell? ⟨w.heap.size, 0, none⟩ = some (.int .i64 n) ∧ w'.cell? ⟨w.heap.size, 1, none⟩ = some (.int .i64 s) ∧ w'.cell? ⟨w.heap.size, 2, none⟩ = some (.int .i64 q))
    ((refine HS.out _ ?_; first | exact (Below.refl _ _).drew | exact And.left (by assumption) | exact Below.trans (And.left (by assumption)) (Below.mono hb5 (Below.size (And.left (by assumption)))) | exact Below.trans (And.left (by assumption)) (Below.mono hb4 (Below.size (And.left (by assumption))))))
    (first
      | (go_at_call 7; have _t := tok1; refine (rsums_is _ _ _ _ HE.out _).mono ?_; rintro e' w4 ⟨rfl, hb4⟩; clear tok1 _t)
      | (go_at_call 7; refine (rsums_is _ _ _ _ HE.out _).mono ?_; rintro e' w5 ⟨rfl, hb5⟩))
  rename_i hheld
  have E5 := Lib.hid (E4.out.below hheld.1)
  clear hheld
  have p0 := E5.out.hd.lt
  have z0 := E5.out.hd.cell 0
  have z1 := E5.out.hd.cell 1
  have z2 := E5.out.hd.cell 2
  have p1 := E5.out.tl.hd.lt
  have y0 := E5.out.tl.hd.cell 0
  have y1 := E5.out.tl.hd.cell 1
  have y2 := E5.out.tl.hd.cell 2
  have p2 := E5.out.tl.tl.hd.lt
  have x0 := E5.out.tl.tl.hd.cell 0
  have x1 := E5.out.tl.tl.hd.cell 1
  have x2 := E5.out.tl.tl.hd.cell 2
  have p3 := E5.out.tl.tl.tl.hd.lt
  have c0 := E5.out.tl.tl.tl.hd.cell 0
  have c1 := E5.out.tl.tl.tl.hd.cell 1
  have c2 := E5.out.tl.tl.tl.hd.cell 2
  have p4 := E5.out.tl.tl.tl.tl.hd.lt
  have a0 := E5.out.tl.tl.tl.tl.hd.cell 0
  have a1 := E5.out.tl.tl.tl.tl.hd.cell 1
  have a2 := E5.out.tl.tl.tl.tl.hd.cell 2
  simp at z0 z1 z2 y0 y1 y2 x0 x1 x2 c0 c1 c2 a0 a1 a2 p0 p1 p2 p3 p4
  go_wp2_with (go_at_call 8; refine (rval_is _ _ HV.out _).mono ?_; rintro e' w' ⟨rfl, rfl⟩)
  refine (rsums_is _ _ _ _ HF.out _).mono ?_
  rintro e' w6 ⟨rfl, hb6⟩
  have E6 := Lib.hid (E5.out.below hb6)
  clear hb6 z0 z1 z2 y0 y1 y2 x0 x1 x2 c0 c1 c2 a0 a1 a2 p0 p1 p2 p3 p4
  have p0 := E6.out.hd.lt
  have z0 := E6.out.hd.cell 0
  have z1 := E6.out.hd.cell 1
  have z2 := E6.out.hd.cell 2
  have p1 := E6.out.tl.hd.lt
  have y0 := E6.out.tl.hd.cell 0
  have y1 := E6.out.tl.hd.cell 1
  have y2 := E6.out.tl.hd.cell 2
  have p2 := E6.out.tl.tl.hd.lt
  have x0 := E6.out.tl.tl.hd.cell 0
  have x1 := E6.out.tl.tl.hd.cell 1
  have x2 := E6.out.tl.tl.hd.cell 2
  have p3 := E6.out.tl.tl.tl.hd.lt
  have c0 := E6.out.tl.tl.tl.hd.cell 0
  have c1 := E6.out.tl.tl.tl.hd.cell 1
  have c2 := E6.out.tl.tl.tl.hd.cell 2
  have p4 := E6.out.tl.tl.tl.tl.hd.lt
  have a0 := E6.out.tl.tl.tl.tl.hd.cell 0
  have a1 := E6.out.tl.tl.tl.tl.hd.cell 1
  have a2 := E6.out.tl.tl.tl.tl.hd.cell 2
  simp at z0 z1 z2 y0 y1 y2 x0 x1 x2 c0 c1 c2 a0 a1 a2 p0 p1 p2 p3 p4
  go_wp2_with fail
  refine (rsums_is _ _ _ _ HL.out _).mono ?_
  rintro e' w7 ⟨rfl, hb7⟩
  have E7 := Lib.hid ((E6.out.lay _ _).below hb7)
  clear hb7 z0 z1 z2 y0 y1 y2 x0 x1 x2 c0 c1 c2 a0 a1 a2 p0 p1 p2 p3 p4
  have p0 := E7.out.hd.lt
  have l0 := E7.out.hd.cell 0
  have l1 := E7.out.hd.cell 1
  have l2 := E7.out.hd.cell 2
  have p1 := E7.out.tl.hd.lt
  have z0 := E7.out.tl.hd.cell 0
  have z1 := E7.out.tl.hd.cell 1
  have z2 := E7.out.tl.hd.cell 2
  have p2 := E7.out.tl.tl.hd.lt
  have y0 := E7.out.tl.tl.hd.cell 0
  have y1 := E7.out.tl.tl.hd.cell 1
  have y2 := E7.out.tl.tl.hd.cell 2
  have p3 := E7.out.tl.tl.tl.hd.lt
  have x0 := E7.out.tl.tl.tl.hd.cell 0
  have x1 := E7.out.tl.tl.tl.hd.cell 1
  have x2 := E7.out.tl.tl.tl.hd.cell 2
  have p4 := E7.out.tl.tl.tl.tl.hd.lt
  have c0 := E7.out.tl.tl.tl.tl.hd.cell 0
  have c1 := E7.out.tl.tl.tl.tl.hd.cell 1
  have c2 := E7.out.tl.tl.tl.tl.hd.cell 2
  have p5 := E7.out.tl.tl.tl.tl.tl.hd.lt
  have a0 := E7.out.tl.tl.tl.tl.tl.hd.cell 0
  have a1 := E7.out.tl.tl.tl.tl.tl.hd.cell 1
  have a2 := E7.out.tl.tl.tl.tl.tl.hd.cell 2
  simp at l0 l1 l2 z0 z1 z2 y0 y1 y2 x0 x1 x2 c0 c1 c2 a0 a1 a2 p0 p1 p2 p3 p4 p5
  go_wp2
  go_ret
  exact ⟨rfl, E7.out.bel⟩

set_option maxHeartbeats 4000000 in
set_option maxRecDepth 100000 in
theorem sa_val_l (n s q n' s' q' v : Int) (he : sumsE n s q = 0) (hv : wi v 0 16777216 = false) (hf : sumsE n' s' q' = 0) (hj : 64 < n + n') (w : World) :
    Calls Try.prog 3 #[.agg #[.int .i64 n, .int .i64 s, .int .i64 q], .agg #[.int .i64 n', .int .i64 s', .int .i64 q'], .int .i64 v] w fun e' w' => e' = .returned (.bool true) ∧ Below w.heap.size w w' := by
  have HE := Lib.hid he
  clear he
  have HV := Lib.hid hv
  clear hv
  have HF := Lib.hid hf
  clear hf
  obtain ⟨b1', b2', -, -, -, -⟩ := (sumsE_zero HF.out).1.bounds
  obtain ⟨h0', h1', h2', h3', h4', h5'⟩ := (sumsE_zero HF.out).1
  obtain ⟨b1, b2, -, -, -, -⟩ := (sumsE_zero HE.out).1.bounds
  obtain ⟨h0, h1, h2, h3, h4, h5⟩ := (sumsE_zero HE.out).1
  have E := Lib.hid (((Env.start w).lay #[.int .i64 n, .int .i64 s, .int .i64 q] 23).lay #[.int .i64 n', .int .i64 s', .int .i64 q'] 23)
  simp only [World.size_alloc] at E
  go_enter Try.func3, Try.ntmps3
  go_wp2_with fail
  refine (add_val _ _ _ _ HE.out HV.out _).mono ?_
  rintro e' w1 ⟨rfl, hb1⟩
  have E1 := Lib.hid (E.out.below hb1)
  clear hb1
  have p0 := E1.out.hd.lt
  have c0 := E1.out.hd.cell 0
  have c1 := E1.out.hd.cell 1
  have c2 := E1.out.hd.cell 2
  have p1 := E1.out.tl.hd.lt
  have a0 := E1.out.tl.hd.cell 0
  have a1 := E1.out.tl.hd.cell 1
  have a2 := E1.out.tl.hd.cell 2
  simp at c0 c1 c2 a0 a1 a2 p0 p1
  go_wp2_with fail
  refine (less_val _ _ _ _ HE.out HV.out _).mono ?_
  rintro e' w2 ⟨rfl, hb2⟩
  have E2 := Lib.hid ((E1.out.lay _ _).below hb2)
  clear hb2 c0 c1 c2 a0 a1 a2 p0 p1
  have p0 := E2.out.hd.lt
  have x0 := E2.out.hd.cell 0
  have x1 := E2.out.hd.cell 1
  have x2 := E2.out.hd.cell 2
  have p1 := E2.out.tl.hd.lt
  have c0 := E2.out.tl.hd.cell 0
  have c1 := E2.out.tl.hd.cell 1
  have c2 := E2.out.tl.hd.cell 2
  have p2 := E2.out.tl.tl.hd.lt
  have a0 := E2.out.tl.tl.hd.cell 0
  have a1 := E2.out.tl.tl.hd.cell 1
  have a2 := E2.out.tl.tl.hd.cell 2
  simp at x0 x1 x2 c0 c1 c2 a0 a1 a2 p0 p1 p2
  go_wp2_with fail
  refine (join_large _ _ _ _ _ _ HE.out HF.out hj _).mono ?_
  rintro e' w3 ⟨rfl, hb3⟩
  have E3 := Lib.hid ((E2.out.lay _ _).below hb3)
  clear hb3 x0 x1 x2 c0 c1 c2 a0 a1 a2 p0 p1 p2
  go_wp2_with fail
  generalize hW : (w3.alloc (.cells #[.int .i64 0, .int .i64 0, .int .i64 0] 23)) = W2
  have e3 := E3.out.lay #[.int .i64 0, .int .i64 0, .int .i64 0] 23
  rw [hW] at e3
  have E4 := Lib.hid e3
  clear e3 hW
  have HS := Lib.hid (show ∀ w', Below W2.heap.size W2 w' → (Below W2.heap.size W2 w' ∧ w'.cell? ⟨w.heap.size, 0, none⟩ = some (.int .i64 n) ∧ w'.cell? ⟨w.heap.size, 1, none⟩ = some (.int .i64 s) ∧ w'.cell? ⟨w.heap.size, 2, none⟩ = some (.int .i64 q))
    from fun w' e8 => ⟨e8, (E4.out.below e8).tl.tl.tl.tl.hd.cell 0, (E4.out.below e8).tl.tl.tl.tl.hd.cell 1, (E4.out.below e8).tl.tl.tl.tl.hd.cell 2⟩)
  have tok1 : True := trivial
  go_region_held3 (fun w' => Below W2.heap.size W2 w' ∧ w'.cell? ⟨w.heap.size, 0, none⟩ = some (.int .i64 n) ∧ w'.cell? ⟨w.heap.size, 1, none⟩ = some (.int .i64 s) ∧ w'.cell? ⟨w.heap.size, 2, none⟩ = some (.int .i64 q))
    ((refine HS.out _ ?_; first | exact (Below.refl _ _).drew | exact And.left (by assumption) | exact Below.trans (And.left (by assumption)) (Below.mono hb5 (Below.size (And.left (by assumption)))) | exact Below.trans (And.left (by assumption)) (Below.mono hb4 (Below.size (And.left (by assumption))))))
    (first
      | (go_at_call 7; have _t := tok1; refine (rsums_is _ _ _ _ HE.out _).mono ?_; rintro e' w4 ⟨rfl, hb4⟩; clear tok1 _t)
      | (go_at_call 7; refine (rsums_is _ _ _ _ HE.out _).mono ?_; rintro e' w5 ⟨rfl, hb5⟩))
  rename_i hheld
  have E5 := Lib.hid (E4.out.below hheld.1)
  clear hheld
  have p0 := E5.out.hd.lt
  have z0 := E5.out.hd.cell 0
  have z1 := E5.out.hd.cell 1
  have z2 := E5.out.hd.cell 2
  have p1 := E5.out.tl.hd.lt
  have y0 := E5.out.tl.hd.cell 0
  have y1 := E5.out.tl.hd.cell 1
  have y2 := E5.out.tl.hd.cell 2
  have p2 := E5.out.tl.tl.hd.lt
  have x0 := E5.out.tl.tl.hd.cell 0
  have x1 := E5.out.tl.tl.hd.cell 1
  have x2 := E5.out.tl.tl.hd.cell 2
  have p3 := E5.out.tl.tl.tl.hd.lt
  have c0 := E5.out.tl.tl.tl.hd.cell 0
  have c1 := E5.out.tl.tl.tl.hd.cell 1
  have c2 := E5.out.tl.tl.tl.hd.cell 2
  have p4 := E5.out.tl.tl.tl.tl.hd.lt
  have a0 := E5.out.tl.tl.tl.tl.hd.cell 0
  have a1 := E5.out.tl.tl.tl.tl.hd.cell 1
  have a2 := E5.out.tl.tl.tl.tl.hd.cell 2
  simp at z0 z1 z2 y0 y1 y2 x0 x1 x2 c0 c1 c2 a0 a1 a2 p0 p1 p2 p3 p4
  go_wp2_with (go_at_call 8; refine (rval_is _ _ HV.out _).mono ?_; rintro e' w' ⟨rfl, rfl⟩)
  refine (rsums_is _ _ _ _ HF.out _).mono ?_
  rintro e' w6 ⟨rfl, hb6⟩
  have E6 := Lib.hid (E5.out.below hb6)
  clear hb6 z0 z1 z2 y0 y1 y2 x0 x1 x2 c0 c1 c2 a0 a1 a2 p0 p1 p2 p3 p4
  have p0 := E6.out.hd.lt
  have z0 := E6.out.hd.cell 0
  have z1 := E6.out.hd.cell 1
  have z2 := E6.out.hd.cell 2
  have p1 := E6.out.tl.hd.lt
  have y0 := E6.out.tl.hd.cell 0
  have y1 := E6.out.tl.hd.cell 1
  have y2 := E6.out.tl.hd.cell 2
  have p2 := E6.out.tl.tl.hd.lt
  have x0 := E6.out.tl.tl.hd.cell 0
  have x1 := E6.out.tl.tl.hd.cell 1
  have x2 := E6.out.tl.tl.hd.cell 2
  have p3 := E6.out.tl.tl.tl.hd.lt
  have c0 := E6.out.tl.tl.tl.hd.cell 0
  have c1 := E6.out.tl.tl.tl.hd.cell 1
  have c2 := E6.out.tl.tl.tl.hd.cell 2
  have p4 := E6.out.tl.tl.tl.tl.hd.lt
  have a0 := E6.out.tl.tl.tl.tl.hd.cell 0
  have a1 := E6.out.tl.tl.tl.tl.hd.cell 1
  have a2 := E6.out.tl.tl.tl.tl.hd.cell 2
  simp at z0 z1 z2 y0 y1 y2 x0 x1 x2 c0 c1 c2 a0 a1 a2 p0 p1 p2 p3 p4
  go_wp2
  go_ret
  exact ⟨rfl, E6.out.bel⟩

set_option maxHeartbeats 4000000 in
set_option maxRecDepth 100000 in
theorem sa_lun (n s q n' s' q' v : Int) (he : sumsE n s q = 0) (hv : wi v 0 16777216 = true) (hf : sumsE n' s' q' = 0) (hj : 64 < n + n') (hu : 64 ≤ n) (l : Int) (hl : sumsE (n - 1) (s - v) (q - v * v) = l) (hm : l ≠ 0) (w : World) :
    Calls Try.prog 3 #[.agg #[.int .i64 n, .int .i64 s, .int .i64 q], .agg #[.int .i64 n', .int .i64 s', .int .i64 q'], .int .i64 v] w fun e' w' => e' = .returned (.bool true) ∧ Below w.heap.size w w' := by
  have HE := Lib.hid he
  clear he
  have HV := Lib.hid hv
  clear hv
  have HL := Lib.hid hl
  clear hl
  have HF := Lib.hid hf
  clear hf
  obtain ⟨b1', b2', -, -, -, -⟩ := (sumsE_zero HF.out).1.bounds
  obtain ⟨h0', h1', h2', h3', h4', h5'⟩ := (sumsE_zero HF.out).1
  obtain ⟨b1, b2, -, -, -, -⟩ := (sumsE_zero HE.out).1.bounds
  obtain ⟨h0, h1, h2, h3, h4, h5⟩ := (sumsE_zero HE.out).1
  obtain ⟨v0, v1, v2, v3⟩ := sq_bounds HV.out
  have E := Lib.hid (((Env.start w).lay #[.int .i64 n, .int .i64 s, .int .i64 q] 23).lay #[.int .i64 n', .int .i64 s', .int .i64 q'] 23)
  simp only [World.size_alloc] at E
  go_enter Try.func3, Try.ntmps3
  go_wp2_with fail
  refine (add_full _ _ _ _ HE.out HV.out hu _).mono ?_
  rintro e' w1 ⟨rfl, hb1⟩
  have E1 := Lib.hid (E.out.below hb1)
  clear hb1
  have p0 := E1.out.hd.lt
  have c0 := E1.out.hd.cell 0
  have c1 := E1.out.hd.cell 1
  have c2 := E1.out.hd.cell 2
  have p1 := E1.out.tl.hd.lt
  have a0 := E1.out.tl.hd.cell 0
  have a1 := E1.out.tl.hd.cell 1
  have a2 := E1.out.tl.hd.cell 2
  simp at c0 c1 c2 a0 a1 a2 p0 p1
  go_wp2_with fail
  refine (less_none _ _ _ _ HE.out HV.out _ HL.out hm _).mono ?_
  rintro e' w2 ⟨rfl, hb2⟩
  have E2 := Lib.hid ((E1.out.lay _ _).below hb2)
  clear hb2 c0 c1 c2 a0 a1 a2 p0 p1
  have p0 := E2.out.hd.lt
  have x0 := E2.out.hd.cell 0
  have x1 := E2.out.hd.cell 1
  have x2 := E2.out.hd.cell 2
  have p1 := E2.out.tl.hd.lt
  have c0 := E2.out.tl.hd.cell 0
  have c1 := E2.out.tl.hd.cell 1
  have c2 := E2.out.tl.hd.cell 2
  have p2 := E2.out.tl.tl.hd.lt
  have a0 := E2.out.tl.tl.hd.cell 0
  have a1 := E2.out.tl.tl.hd.cell 1
  have a2 := E2.out.tl.tl.hd.cell 2
  simp at x0 x1 x2 c0 c1 c2 a0 a1 a2 p0 p1 p2
  go_wp2_with fail
  refine (join_large _ _ _ _ _ _ HE.out HF.out hj _).mono ?_
  rintro e' w3 ⟨rfl, hb3⟩
  have E3 := Lib.hid ((E2.out.lay _ _).below hb3)
  clear hb3 x0 x1 x2 c0 c1 c2 a0 a1 a2 p0 p1 p2
  go_wp2_with fail
  generalize hW : (w3.alloc (.cells #[.int .i64 0, .int .i64 0, .int .i64 0] 23)) = W2
  have e3 := E3.out.lay #[.int .i64 0, .int .i64 0, .int .i64 0] 23
  rw [hW] at e3
  have E4 := Lib.hid e3
  clear e3 hW
  have HS := Lib.hid (show ∀ w', Below W2.heap.size W2 w' → (Below W2.heap.size W2 w' ∧ w'.cell? ⟨w.heap.size, 0, none⟩ = some (.int .i64 n) ∧ w'.cell? ⟨w.heap.size, 1, none⟩ = some (.int .i64 s) ∧ w'.cell? ⟨w.heap.size, 2, none⟩ = some (.int .i64 q))
    from fun w' e8 => ⟨e8, (E4.out.below e8).tl.tl.tl.tl.hd.cell 0, (E4.out.below e8).tl.tl.tl.tl.hd.cell 1, (E4.out.below e8).tl.tl.tl.tl.hd.cell 2⟩)
  have tok1 : True := trivial
  go_region_held3 (fun w' => Below W2.heap.size W2 w' ∧ w'.cell? ⟨w.heap.size, 0, none⟩ = some (.int .i64 n) ∧ w'.cell? ⟨w.heap.size, 1, none⟩ = some (.int .i64 s) ∧ w'.cell? ⟨w.heap.size, 2, none⟩ = some (.int .i64 q))
    ((refine HS.out _ ?_; first | exact (Below.refl _ _).drew | exact And.left (by assumption) | exact Below.trans (And.left (by assumption)) (Below.mono hb5 (Below.size (And.left (by assumption)))) | exact Below.trans (And.left (by assumption)) (Below.mono hb4 (Below.size (And.left (by assumption))))))
    (first
      | (go_at_call 7; have _t := tok1; refine (rsums_is _ _ _ _ HE.out _).mono ?_; rintro e' w4 ⟨rfl, hb4⟩; clear tok1 _t)
      | (go_at_call 7; refine (rsums_is _ _ _ _ HE.out _).mono ?_; rintro e' w5 ⟨rfl, hb5⟩))
  rename_i hheld
  have E5 := Lib.hid (E4.out.below hheld.1)
  clear hheld
  have p0 := E5.out.hd.lt
  have z0 := E5.out.hd.cell 0
  have z1 := E5.out.hd.cell 1
  have z2 := E5.out.hd.cell 2
  have p1 := E5.out.tl.hd.lt
  have y0 := E5.out.tl.hd.cell 0
  have y1 := E5.out.tl.hd.cell 1
  have y2 := E5.out.tl.hd.cell 2
  have p2 := E5.out.tl.tl.hd.lt
  have x0 := E5.out.tl.tl.hd.cell 0
  have x1 := E5.out.tl.tl.hd.cell 1
  have x2 := E5.out.tl.tl.hd.cell 2
  have p3 := E5.out.tl.tl.tl.hd.lt
  have c0 := E5.out.tl.tl.tl.hd.cell 0
  have c1 := E5.out.tl.tl.tl.hd.cell 1
  have c2 := E5.out.tl.tl.tl.hd.cell 2
  have p4 := E5.out.tl.tl.tl.tl.hd.lt
  have a0 := E5.out.tl.tl.tl.tl.hd.cell 0
  have a1 := E5.out.tl.tl.tl.tl.hd.cell 1
  have a2 := E5.out.tl.tl.tl.tl.hd.cell 2
  simp at z0 z1 z2 y0 y1 y2 x0 x1 x2 c0 c1 c2 a0 a1 a2 p0 p1 p2 p3 p4
  go_wp2_with (go_at_call 8; refine (rval_is _ _ HV.out _).mono ?_; rintro e' w' ⟨rfl, rfl⟩)
  refine (rsums_is _ _ _ _ HF.out _).mono ?_
  rintro e' w6 ⟨rfl, hb6⟩
  have E6 := Lib.hid (E5.out.below hb6)
  clear hb6 z0 z1 z2 y0 y1 y2 x0 x1 x2 c0 c1 c2 a0 a1 a2 p0 p1 p2 p3 p4
  have p0 := E6.out.hd.lt
  have z0 := E6.out.hd.cell 0
  have z1 := E6.out.hd.cell 1
  have z2 := E6.out.hd.cell 2
  have p1 := E6.out.tl.hd.lt
  have y0 := E6.out.tl.hd.cell 0
  have y1 := E6.out.tl.hd.cell 1
  have y2 := E6.out.tl.hd.cell 2
  have p2 := E6.out.tl.tl.hd.lt
  have x0 := E6.out.tl.tl.hd.cell 0
  have x1 := E6.out.tl.tl.hd.cell 1
  have x2 := E6.out.tl.tl.hd.cell 2
  have p3 := E6.out.tl.tl.tl.hd.lt
  have c0 := E6.out.tl.tl.tl.hd.cell 0
  have c1 := E6.out.tl.tl.tl.hd.cell 1
  have c2 := E6.out.tl.tl.tl.hd.cell 2
  have p4 := E6.out.tl.tl.tl.tl.hd.lt
  have a0 := E6.out.tl.tl.tl.tl.hd.cell 0
  have a1 := E6.out.tl.tl.tl.tl.hd.cell 1
  have a2 := E6.out.tl.tl.tl.tl.hd.cell 2
  simp at z0 z1 z2 y0 y1 y2 x0 x1 x2 c0 c1 c2 a0 a1 a2 p0 p1 p2 p3 p4
  go_wp2_with fail
  refine (rsums_is _ _ _ _ HL.out _).mono ?_
  rintro e' w7 ⟨rfl, hb7⟩
  have E7 := Lib.hid ((E6.out.lay _ _).below hb7)
  clear hb7 z0 z1 z2 y0 y1 y2 x0 x1 x2 c0 c1 c2 a0 a1 a2 p0 p1 p2 p3 p4
  have p0 := E7.out.hd.lt
  have l0 := E7.out.hd.cell 0
  have l1 := E7.out.hd.cell 1
  have l2 := E7.out.hd.cell 2
  have p1 := E7.out.tl.hd.lt
  have z0 := E7.out.tl.hd.cell 0
  have z1 := E7.out.tl.hd.cell 1
  have z2 := E7.out.tl.hd.cell 2
  have p2 := E7.out.tl.tl.hd.lt
  have y0 := E7.out.tl.tl.hd.cell 0
  have y1 := E7.out.tl.tl.hd.cell 1
  have y2 := E7.out.tl.tl.hd.cell 2
  have p3 := E7.out.tl.tl.tl.hd.lt
  have x0 := E7.out.tl.tl.tl.hd.cell 0
  have x1 := E7.out.tl.tl.tl.hd.cell 1
  have x2 := E7.out.tl.tl.tl.hd.cell 2
  have p4 := E7.out.tl.tl.tl.tl.hd.lt
  have c0 := E7.out.tl.tl.tl.tl.hd.cell 0
  have c1 := E7.out.tl.tl.tl.tl.hd.cell 1
  have c2 := E7.out.tl.tl.tl.tl.hd.cell 2
  have p5 := E7.out.tl.tl.tl.tl.tl.hd.lt
  have a0 := E7.out.tl.tl.tl.tl.tl.hd.cell 0
  have a1 := E7.out.tl.tl.tl.tl.tl.hd.cell 1
  have a2 := E7.out.tl.tl.tl.tl.tl.hd.cell 2
  simp at l0 l1 l2 z0 z1 z2 y0 y1 y2 x0 x1 x2 c0 c1 c2 a0 a1 a2 p0 p1 p2 p3 p4 p5
  go_wp2
  go_ret
  exact ⟨rfl, E7.out.bel⟩

set_option maxHeartbeats 4000000 in
set_option maxRecDepth 100000 in
theorem sa_luy (n s q n' s' q' v : Int) (he : sumsE n s q = 0) (hv : wi v 0 16777216 = true) (hf : sumsE n' s' q' = 0) (hj : 64 < n + n') (hu : 64 ≤ n) (hl : sumsE (n - 1) (s - v) (q - v * v) = 0) (w : World) :
    Calls Try.prog 3 #[.agg #[.int .i64 n, .int .i64 s, .int .i64 q], .agg #[.int .i64 n', .int .i64 s', .int .i64 q'], .int .i64 v] w fun e' w' => e' = .returned (.bool true) ∧ Below w.heap.size w w' := by
  have HE := Lib.hid he
  clear he
  have HV := Lib.hid hv
  clear hv
  have HL := Lib.hid hl
  clear hl
  have HF := Lib.hid hf
  clear hf
  obtain ⟨b1', b2', -, -, -, -⟩ := (sumsE_zero HF.out).1.bounds
  obtain ⟨h0', h1', h2', h3', h4', h5'⟩ := (sumsE_zero HF.out).1
  obtain ⟨b1, b2, -, -, -, -⟩ := (sumsE_zero HE.out).1.bounds
  obtain ⟨h0, h1, h2, h3, h4, h5⟩ := (sumsE_zero HE.out).1
  obtain ⟨v0, v1, v2, v3⟩ := sq_bounds HV.out
  have E := Lib.hid (((Env.start w).lay #[.int .i64 n, .int .i64 s, .int .i64 q] 23).lay #[.int .i64 n', .int .i64 s', .int .i64 q'] 23)
  simp only [World.size_alloc] at E
  go_enter Try.func3, Try.ntmps3
  go_wp2_with fail
  refine (add_full _ _ _ _ HE.out HV.out hu _).mono ?_
  rintro e' w1 ⟨rfl, hb1⟩
  have E1 := Lib.hid (E.out.below hb1)
  clear hb1
  have p0 := E1.out.hd.lt
  have c0 := E1.out.hd.cell 0
  have c1 := E1.out.hd.cell 1
  have c2 := E1.out.hd.cell 2
  have p1 := E1.out.tl.hd.lt
  have a0 := E1.out.tl.hd.cell 0
  have a1 := E1.out.tl.hd.cell 1
  have a2 := E1.out.tl.hd.cell 2
  simp at c0 c1 c2 a0 a1 a2 p0 p1
  go_wp2_with fail
  refine (less_ok _ _ _ _ HE.out HV.out HL.out _).mono ?_
  rintro e' w2 ⟨rfl, hb2⟩
  have E2 := Lib.hid ((E1.out.lay _ _).below hb2)
  clear hb2 c0 c1 c2 a0 a1 a2 p0 p1
  have p0 := E2.out.hd.lt
  have x0 := E2.out.hd.cell 0
  have x1 := E2.out.hd.cell 1
  have x2 := E2.out.hd.cell 2
  have p1 := E2.out.tl.hd.lt
  have c0 := E2.out.tl.hd.cell 0
  have c1 := E2.out.tl.hd.cell 1
  have c2 := E2.out.tl.hd.cell 2
  have p2 := E2.out.tl.tl.hd.lt
  have a0 := E2.out.tl.tl.hd.cell 0
  have a1 := E2.out.tl.tl.hd.cell 1
  have a2 := E2.out.tl.tl.hd.cell 2
  simp at x0 x1 x2 c0 c1 c2 a0 a1 a2 p0 p1 p2
  go_wp2_with fail
  refine (join_large _ _ _ _ _ _ HE.out HF.out hj _).mono ?_
  rintro e' w3 ⟨rfl, hb3⟩
  have E3 := Lib.hid ((E2.out.lay _ _).below hb3)
  clear hb3 x0 x1 x2 c0 c1 c2 a0 a1 a2 p0 p1 p2
  go_wp2_with fail
  generalize hW : (w3.alloc (.cells #[.int .i64 0, .int .i64 0, .int .i64 0] 23)) = W2
  have e3 := E3.out.lay #[.int .i64 0, .int .i64 0, .int .i64 0] 23
  rw [hW] at e3
  have E4 := Lib.hid e3
  clear e3 hW
  have HS := Lib.hid (show ∀ w', Below W2.heap.size W2 w' → (Below W2.heap.size W2 w' ∧ w'.cell? ⟨w.heap.size, 0, none⟩ = some (.int .i64 n) ∧ w'.cell? ⟨w.heap.size, 1, none⟩ = some (.int .i64 s) ∧ w'.cell? ⟨w.heap.size, 2, none⟩ = some (.int .i64 q))
    from fun w' e8 => ⟨e8, (E4.out.below e8).tl.tl.tl.tl.hd.cell 0, (E4.out.below e8).tl.tl.tl.tl.hd.cell 1, (E4.out.below e8).tl.tl.tl.tl.hd.cell 2⟩)
  have tok1 : True := trivial
  go_region_held3 (fun w' => Below W2.heap.size W2 w' ∧ w'.cell? ⟨w.heap.size, 0, none⟩ = some (.int .i64 n) ∧ w'.cell? ⟨w.heap.size, 1, none⟩ = some (.int .i64 s) ∧ w'.cell? ⟨w.heap.size, 2, none⟩ = some (.int .i64 q))
    ((refine HS.out _ ?_; first | exact (Below.refl _ _).drew | exact And.left (by assumption) | exact Below.trans (And.left (by assumption)) (Below.mono hb5 (Below.size (And.left (by assumption)))) | exact Below.trans (And.left (by assumption)) (Below.mono hb4 (Below.size (And.left (by assumption))))))
    (first
      | (go_at_call 7; have _t := tok1; refine (rsums_is _ _ _ _ HE.out _).mono ?_; rintro e' w4 ⟨rfl, hb4⟩; clear tok1 _t)
      | (go_at_call 7; refine (rsums_is _ _ _ _ HE.out _).mono ?_; rintro e' w5 ⟨rfl, hb5⟩))
  rename_i hheld
  have E5 := Lib.hid (E4.out.below hheld.1)
  clear hheld
  have p0 := E5.out.hd.lt
  have z0 := E5.out.hd.cell 0
  have z1 := E5.out.hd.cell 1
  have z2 := E5.out.hd.cell 2
  have p1 := E5.out.tl.hd.lt
  have y0 := E5.out.tl.hd.cell 0
  have y1 := E5.out.tl.hd.cell 1
  have y2 := E5.out.tl.hd.cell 2
  have p2 := E5.out.tl.tl.hd.lt
  have x0 := E5.out.tl.tl.hd.cell 0
  have x1 := E5.out.tl.tl.hd.cell 1
  have x2 := E5.out.tl.tl.hd.cell 2
  have p3 := E5.out.tl.tl.tl.hd.lt
  have c0 := E5.out.tl.tl.tl.hd.cell 0
  have c1 := E5.out.tl.tl.tl.hd.cell 1
  have c2 := E5.out.tl.tl.tl.hd.cell 2
  have p4 := E5.out.tl.tl.tl.tl.hd.lt
  have a0 := E5.out.tl.tl.tl.tl.hd.cell 0
  have a1 := E5.out.tl.tl.tl.tl.hd.cell 1
  have a2 := E5.out.tl.tl.tl.tl.hd.cell 2
  simp at z0 z1 z2 y0 y1 y2 x0 x1 x2 c0 c1 c2 a0 a1 a2 p0 p1 p2 p3 p4
  go_wp2_with (go_at_call 8; refine (rval_is _ _ HV.out _).mono ?_; rintro e' w' ⟨rfl, rfl⟩)
  refine (rsums_is _ _ _ _ HF.out _).mono ?_
  rintro e' w6 ⟨rfl, hb6⟩
  have E6 := Lib.hid (E5.out.below hb6)
  clear hb6 z0 z1 z2 y0 y1 y2 x0 x1 x2 c0 c1 c2 a0 a1 a2 p0 p1 p2 p3 p4
  have p0 := E6.out.hd.lt
  have z0 := E6.out.hd.cell 0
  have z1 := E6.out.hd.cell 1
  have z2 := E6.out.hd.cell 2
  have p1 := E6.out.tl.hd.lt
  have y0 := E6.out.tl.hd.cell 0
  have y1 := E6.out.tl.hd.cell 1
  have y2 := E6.out.tl.hd.cell 2
  have p2 := E6.out.tl.tl.hd.lt
  have x0 := E6.out.tl.tl.hd.cell 0
  have x1 := E6.out.tl.tl.hd.cell 1
  have x2 := E6.out.tl.tl.hd.cell 2
  have p3 := E6.out.tl.tl.tl.hd.lt
  have c0 := E6.out.tl.tl.tl.hd.cell 0
  have c1 := E6.out.tl.tl.tl.hd.cell 1
  have c2 := E6.out.tl.tl.tl.hd.cell 2
  have p4 := E6.out.tl.tl.tl.tl.hd.lt
  have a0 := E6.out.tl.tl.tl.tl.hd.cell 0
  have a1 := E6.out.tl.tl.tl.tl.hd.cell 1
  have a2 := E6.out.tl.tl.tl.tl.hd.cell 2
  simp at z0 z1 z2 y0 y1 y2 x0 x1 x2 c0 c1 c2 a0 a1 a2 p0 p1 p2 p3 p4
  go_wp2_with fail
  refine (rsums_is _ _ _ _ HL.out _).mono ?_
  rintro e' w7 ⟨rfl, hb7⟩
  have E7 := Lib.hid ((E6.out.lay _ _).below hb7)
  clear hb7 z0 z1 z2 y0 y1 y2 x0 x1 x2 c0 c1 c2 a0 a1 a2 p0 p1 p2 p3 p4
  have p0 := E7.out.hd.lt
  have l0 := E7.out.hd.cell 0
  have l1 := E7.out.hd.cell 1
  have l2 := E7.out.hd.cell 2
  have p1 := E7.out.tl.hd.lt
  have z0 := E7.out.tl.hd.cell 0
  have z1 := E7.out.tl.hd.cell 1
  have z2 := E7.out.tl.hd.cell 2
  have p2 := E7.out.tl.tl.hd.lt
  have y0 := E7.out.tl.tl.hd.cell 0
  have y1 := E7.out.tl.tl.hd.cell 1
  have y2 := E7.out.tl.tl.hd.cell 2
  have p3 := E7.out.tl.tl.tl.hd.lt
  have x0 := E7.out.tl.tl.tl.hd.cell 0
  have x1 := E7.out.tl.tl.tl.hd.cell 1
  have x2 := E7.out.tl.tl.tl.hd.cell 2
  have p4 := E7.out.tl.tl.tl.tl.hd.lt
  have c0 := E7.out.tl.tl.tl.tl.hd.cell 0
  have c1 := E7.out.tl.tl.tl.tl.hd.cell 1
  have c2 := E7.out.tl.tl.tl.tl.hd.cell 2
  have p5 := E7.out.tl.tl.tl.tl.tl.hd.lt
  have a0 := E7.out.tl.tl.tl.tl.tl.hd.cell 0
  have a1 := E7.out.tl.tl.tl.tl.tl.hd.cell 1
  have a2 := E7.out.tl.tl.tl.tl.tl.hd.cell 2
  simp at l0 l1 l2 z0 z1 z2 y0 y1 y2 x0 x1 x2 c0 c1 c2 a0 a1 a2 p0 p1 p2 p3 p4 p5
  go_wp2
  go_ret
  exact ⟨rfl, E7.out.bel⟩

set_option maxHeartbeats 4000000 in
set_option maxRecDepth 100000 in
theorem sa_lon (n s q n' s' q' v : Int) (he : sumsE n s q = 0) (hv : wi v 0 16777216 = true) (hf : sumsE n' s' q' = 0) (hj : 64 < n + n') (hu : n < 64) (l : Int) (hl : sumsE (n - 1) (s - v) (q - v * v) = l) (hm : l ≠ 0) (w : World) :
    Calls Try.prog 3 #[.agg #[.int .i64 n, .int .i64 s, .int .i64 q], .agg #[.int .i64 n', .int .i64 s', .int .i64 q'], .int .i64 v] w fun e' w' => e' = .returned (.bool true) ∧ Below w.heap.size w w' := by
  have HE := Lib.hid he
  clear he
  have HV := Lib.hid hv
  clear hv
  have HL := Lib.hid hl
  clear hl
  have HF := Lib.hid hf
  clear hf
  obtain ⟨b1', b2', -, -, -, -⟩ := (sumsE_zero HF.out).1.bounds
  obtain ⟨h0', h1', h2', h3', h4', h5'⟩ := (sumsE_zero HF.out).1
  obtain ⟨b1, b2, -, -, -, -⟩ := (sumsE_zero HE.out).1.bounds
  obtain ⟨h0, h1, h2, h3, h4, h5⟩ := (sumsE_zero HE.out).1
  obtain ⟨v0, v1, v2, v3⟩ := sq_bounds HV.out
  have E := Lib.hid (((Env.start w).lay #[.int .i64 n, .int .i64 s, .int .i64 q] 23).lay #[.int .i64 n', .int .i64 s', .int .i64 q'] 23)
  simp only [World.size_alloc] at E
  go_enter Try.func3, Try.ntmps3
  go_wp2_with fail
  refine (add_ok _ _ _ _ HE.out HV.out hu _).mono ?_
  rintro e' w1 ⟨rfl, hb1⟩
  have E1 := Lib.hid (E.out.below hb1)
  clear hb1
  have p0 := E1.out.hd.lt
  have c0 := E1.out.hd.cell 0
  have c1 := E1.out.hd.cell 1
  have c2 := E1.out.hd.cell 2
  have p1 := E1.out.tl.hd.lt
  have a0 := E1.out.tl.hd.cell 0
  have a1 := E1.out.tl.hd.cell 1
  have a2 := E1.out.tl.hd.cell 2
  simp at c0 c1 c2 a0 a1 a2 p0 p1
  go_wp2_with fail
  refine (less_none _ _ _ _ HE.out HV.out _ HL.out hm _).mono ?_
  rintro e' w2 ⟨rfl, hb2⟩
  have E2 := Lib.hid ((E1.out.lay _ _).below hb2)
  clear hb2 c0 c1 c2 a0 a1 a2 p0 p1
  have p0 := E2.out.hd.lt
  have x0 := E2.out.hd.cell 0
  have x1 := E2.out.hd.cell 1
  have x2 := E2.out.hd.cell 2
  have p1 := E2.out.tl.hd.lt
  have c0 := E2.out.tl.hd.cell 0
  have c1 := E2.out.tl.hd.cell 1
  have c2 := E2.out.tl.hd.cell 2
  have p2 := E2.out.tl.tl.hd.lt
  have a0 := E2.out.tl.tl.hd.cell 0
  have a1 := E2.out.tl.tl.hd.cell 1
  have a2 := E2.out.tl.tl.hd.cell 2
  simp at x0 x1 x2 c0 c1 c2 a0 a1 a2 p0 p1 p2
  go_wp2_with fail
  refine (join_large _ _ _ _ _ _ HE.out HF.out hj _).mono ?_
  rintro e' w3 ⟨rfl, hb3⟩
  have E3 := Lib.hid ((E2.out.lay _ _).below hb3)
  clear hb3 x0 x1 x2 c0 c1 c2 a0 a1 a2 p0 p1 p2
  go_wp2_with fail
  generalize hW : (w3.alloc (.cells #[.int .i64 0, .int .i64 0, .int .i64 0] 23)) = W2
  have e3 := E3.out.lay #[.int .i64 0, .int .i64 0, .int .i64 0] 23
  rw [hW] at e3
  have E4 := Lib.hid e3
  clear e3 hW
  have HS := Lib.hid (show ∀ w', Below W2.heap.size W2 w' → (Below W2.heap.size W2 w' ∧ w'.cell? ⟨w.heap.size, 0, none⟩ = some (.int .i64 n) ∧ w'.cell? ⟨w.heap.size, 1, none⟩ = some (.int .i64 s) ∧ w'.cell? ⟨w.heap.size, 2, none⟩ = some (.int .i64 q))
    from fun w' e8 => ⟨e8, (E4.out.below e8).tl.tl.tl.tl.hd.cell 0, (E4.out.below e8).tl.tl.tl.tl.hd.cell 1, (E4.out.below e8).tl.tl.tl.tl.hd.cell 2⟩)
  have tok1 : True := trivial
  go_region_held3 (fun w' => Below W2.heap.size W2 w' ∧ w'.cell? ⟨w.heap.size, 0, none⟩ = some (.int .i64 n) ∧ w'.cell? ⟨w.heap.size, 1, none⟩ = some (.int .i64 s) ∧ w'.cell? ⟨w.heap.size, 2, none⟩ = some (.int .i64 q))
    ((refine HS.out _ ?_; first | exact (Below.refl _ _).drew | exact And.left (by assumption) | exact Below.trans (And.left (by assumption)) (Below.mono hb5 (Below.size (And.left (by assumption)))) | exact Below.trans (And.left (by assumption)) (Below.mono hb4 (Below.size (And.left (by assumption))))))
    (first
      | (go_at_call 7; have _t := tok1; refine (rsums_is _ _ _ _ HE.out _).mono ?_; rintro e' w4 ⟨rfl, hb4⟩; clear tok1 _t)
      | (go_at_call 7; refine (rsums_is _ _ _ _ HE.out _).mono ?_; rintro e' w5 ⟨rfl, hb5⟩))
  rename_i hheld
  have E5 := Lib.hid (E4.out.below hheld.1)
  clear hheld
  have p0 := E5.out.hd.lt
  have z0 := E5.out.hd.cell 0
  have z1 := E5.out.hd.cell 1
  have z2 := E5.out.hd.cell 2
  have p1 := E5.out.tl.hd.lt
  have y0 := E5.out.tl.hd.cell 0
  have y1 := E5.out.tl.hd.cell 1
  have y2 := E5.out.tl.hd.cell 2
  have p2 := E5.out.tl.tl.hd.lt
  have x0 := E5.out.tl.tl.hd.cell 0
  have x1 := E5.out.tl.tl.hd.cell 1
  have x2 := E5.out.tl.tl.hd.cell 2
  have p3 := E5.out.tl.tl.tl.hd.lt
  have c0 := E5.out.tl.tl.tl.hd.cell 0
  have c1 := E5.out.tl.tl.tl.hd.cell 1
  have c2 := E5.out.tl.tl.tl.hd.cell 2
  have p4 := E5.out.tl.tl.tl.tl.hd.lt
  have a0 := E5.out.tl.tl.tl.tl.hd.cell 0
  have a1 := E5.out.tl.tl.tl.tl.hd.cell 1
  have a2 := E5.out.tl.tl.tl.tl.hd.cell 2
  simp at z0 z1 z2 y0 y1 y2 x0 x1 x2 c0 c1 c2 a0 a1 a2 p0 p1 p2 p3 p4
  go_wp2_with (go_at_call 8; refine (rval_is _ _ HV.out _).mono ?_; rintro e' w' ⟨rfl, rfl⟩)
  refine (rsums_is _ _ _ _ HF.out _).mono ?_
  rintro e' w6 ⟨rfl, hb6⟩
  have E6 := Lib.hid (E5.out.below hb6)
  clear hb6 z0 z1 z2 y0 y1 y2 x0 x1 x2 c0 c1 c2 a0 a1 a2 p0 p1 p2 p3 p4
  have p0 := E6.out.hd.lt
  have z0 := E6.out.hd.cell 0
  have z1 := E6.out.hd.cell 1
  have z2 := E6.out.hd.cell 2
  have p1 := E6.out.tl.hd.lt
  have y0 := E6.out.tl.hd.cell 0
  have y1 := E6.out.tl.hd.cell 1
  have y2 := E6.out.tl.hd.cell 2
  have p2 := E6.out.tl.tl.hd.lt
  have x0 := E6.out.tl.tl.hd.cell 0
  have x1 := E6.out.tl.tl.hd.cell 1
  have x2 := E6.out.tl.tl.hd.cell 2
  have p3 := E6.out.tl.tl.tl.hd.lt
  have c0 := E6.out.tl.tl.tl.hd.cell 0
  have c1 := E6.out.tl.tl.tl.hd.cell 1
  have c2 := E6.out.tl.tl.tl.hd.cell 2
  have p4 := E6.out.tl.tl.tl.tl.hd.lt
  have a0 := E6.out.tl.tl.tl.tl.hd.cell 0
  have a1 := E6.out.tl.tl.tl.tl.hd.cell 1
  have a2 := E6.out.tl.tl.tl.tl.hd.cell 2
  simp at z0 z1 z2 y0 y1 y2 x0 x1 x2 c0 c1 c2 a0 a1 a2 p0 p1 p2 p3 p4
  go_wp2_with fail
  refine (rsums_is _ _ _ _ HL.out _).mono ?_
  rintro e' w7 ⟨rfl, hb7⟩
  have E7 := Lib.hid ((E6.out.lay _ _).below hb7)
  clear hb7 z0 z1 z2 y0 y1 y2 x0 x1 x2 c0 c1 c2 a0 a1 a2 p0 p1 p2 p3 p4
  have p0 := E7.out.hd.lt
  have l0 := E7.out.hd.cell 0
  have l1 := E7.out.hd.cell 1
  have l2 := E7.out.hd.cell 2
  have p1 := E7.out.tl.hd.lt
  have z0 := E7.out.tl.hd.cell 0
  have z1 := E7.out.tl.hd.cell 1
  have z2 := E7.out.tl.hd.cell 2
  have p2 := E7.out.tl.tl.hd.lt
  have y0 := E7.out.tl.tl.hd.cell 0
  have y1 := E7.out.tl.tl.hd.cell 1
  have y2 := E7.out.tl.tl.hd.cell 2
  have p3 := E7.out.tl.tl.tl.hd.lt
  have x0 := E7.out.tl.tl.tl.hd.cell 0
  have x1 := E7.out.tl.tl.tl.hd.cell 1
  have x2 := E7.out.tl.tl.tl.hd.cell 2
  have p4 := E7.out.tl.tl.tl.tl.hd.lt
  have c0 := E7.out.tl.tl.tl.tl.hd.cell 0
  have c1 := E7.out.tl.tl.tl.tl.hd.cell 1
  have c2 := E7.out.tl.tl.tl.tl.hd.cell 2
  have p5 := E7.out.tl.tl.tl.tl.tl.hd.lt
  have a0 := E7.out.tl.tl.tl.tl.tl.hd.cell 0
  have a1 := E7.out.tl.tl.tl.tl.tl.hd.cell 1
  have a2 := E7.out.tl.tl.tl.tl.tl.hd.cell 2
  simp at l0 l1 l2 z0 z1 z2 y0 y1 y2 x0 x1 x2 c0 c1 c2 a0 a1 a2 p0 p1 p2 p3 p4 p5
  go_wp2
  go_ret
  exact ⟨rfl, E7.out.bel⟩

set_option maxHeartbeats 4000000 in
set_option maxRecDepth 100000 in
theorem sa_loy (n s q n' s' q' v : Int) (he : sumsE n s q = 0) (hv : wi v 0 16777216 = true) (hf : sumsE n' s' q' = 0) (hj : 64 < n + n') (hu : n < 64) (hl : sumsE (n - 1) (s - v) (q - v * v) = 0) (w : World) :
    Calls Try.prog 3 #[.agg #[.int .i64 n, .int .i64 s, .int .i64 q], .agg #[.int .i64 n', .int .i64 s', .int .i64 q'], .int .i64 v] w fun e' w' => e' = .returned (.bool true) ∧ Below w.heap.size w w' := by
  have HE := Lib.hid he
  clear he
  have HV := Lib.hid hv
  clear hv
  have HL := Lib.hid hl
  clear hl
  have HF := Lib.hid hf
  clear hf
  obtain ⟨b1', b2', -, -, -, -⟩ := (sumsE_zero HF.out).1.bounds
  obtain ⟨h0', h1', h2', h3', h4', h5'⟩ := (sumsE_zero HF.out).1
  obtain ⟨b1, b2, -, -, -, -⟩ := (sumsE_zero HE.out).1.bounds
  obtain ⟨h0, h1, h2, h3, h4, h5⟩ := (sumsE_zero HE.out).1
  obtain ⟨v0, v1, v2, v3⟩ := sq_bounds HV.out
  have E := Lib.hid (((Env.start w).lay #[.int .i64 n, .int .i64 s, .int .i64 q] 23).lay #[.int .i64 n', .int .i64 s', .int .i64 q'] 23)
  simp only [World.size_alloc] at E
  go_enter Try.func3, Try.ntmps3
  go_wp2_with fail
  refine (add_ok _ _ _ _ HE.out HV.out hu _).mono ?_
  rintro e' w1 ⟨rfl, hb1⟩
  have E1 := Lib.hid (E.out.below hb1)
  clear hb1
  have p0 := E1.out.hd.lt
  have c0 := E1.out.hd.cell 0
  have c1 := E1.out.hd.cell 1
  have c2 := E1.out.hd.cell 2
  have p1 := E1.out.tl.hd.lt
  have a0 := E1.out.tl.hd.cell 0
  have a1 := E1.out.tl.hd.cell 1
  have a2 := E1.out.tl.hd.cell 2
  simp at c0 c1 c2 a0 a1 a2 p0 p1
  go_wp2_with fail
  refine (less_ok _ _ _ _ HE.out HV.out HL.out _).mono ?_
  rintro e' w2 ⟨rfl, hb2⟩
  have E2 := Lib.hid ((E1.out.lay _ _).below hb2)
  clear hb2 c0 c1 c2 a0 a1 a2 p0 p1
  have p0 := E2.out.hd.lt
  have x0 := E2.out.hd.cell 0
  have x1 := E2.out.hd.cell 1
  have x2 := E2.out.hd.cell 2
  have p1 := E2.out.tl.hd.lt
  have c0 := E2.out.tl.hd.cell 0
  have c1 := E2.out.tl.hd.cell 1
  have c2 := E2.out.tl.hd.cell 2
  have p2 := E2.out.tl.tl.hd.lt
  have a0 := E2.out.tl.tl.hd.cell 0
  have a1 := E2.out.tl.tl.hd.cell 1
  have a2 := E2.out.tl.tl.hd.cell 2
  simp at x0 x1 x2 c0 c1 c2 a0 a1 a2 p0 p1 p2
  go_wp2_with fail
  refine (join_large _ _ _ _ _ _ HE.out HF.out hj _).mono ?_
  rintro e' w3 ⟨rfl, hb3⟩
  have E3 := Lib.hid ((E2.out.lay _ _).below hb3)
  clear hb3 x0 x1 x2 c0 c1 c2 a0 a1 a2 p0 p1 p2
  go_wp2_with fail
  generalize hW : (w3.alloc (.cells #[.int .i64 0, .int .i64 0, .int .i64 0] 23)) = W2
  have e3 := E3.out.lay #[.int .i64 0, .int .i64 0, .int .i64 0] 23
  rw [hW] at e3
  have E4 := Lib.hid e3
  clear e3 hW
  have HS := Lib.hid (show ∀ w', Below W2.heap.size W2 w' → (Below W2.heap.size W2 w' ∧ w'.cell? ⟨w.heap.size, 0, none⟩ = some (.int .i64 n) ∧ w'.cell? ⟨w.heap.size, 1, none⟩ = some (.int .i64 s) ∧ w'.cell? ⟨w.heap.size, 2, none⟩ = some (.int .i64 q))
    from fun w' e8 => ⟨e8, (E4.out.below e8).tl.tl.tl.tl.hd.cell 0, (E4.out.below e8).tl.tl.tl.tl.hd.cell 1, (E4.out.below e8).tl.tl.tl.tl.hd.cell 2⟩)
  have tok1 : True := trivial
  go_region_held3 (fun w' => Below W2.heap.size W2 w' ∧ w'.cell? ⟨w.heap.size, 0, none⟩ = some (.int .i64 n) ∧ w'.cell? ⟨w.heap.size, 1, none⟩ = some (.int .i64 s) ∧ w'.cell? ⟨w.heap.size, 2, none⟩ = some (.int .i64 q))
    ((refine HS.out _ ?_; first | exact (Below.refl _ _).drew | exact And.left (by assumption) | exact Below.trans (And.left (by assumption)) (Below.mono hb5 (Below.size (And.left (by assumption)))) | exact Below.trans (And.left (by assumption)) (Below.mono hb4 (Below.size (And.left (by assumption))))))
    (first
      | (go_at_call 7; have _t := tok1; refine (rsums_is _ _ _ _ HE.out _).mono ?_; rintro e' w4 ⟨rfl, hb4⟩; clear tok1 _t)
      | (go_at_call 7; refine (rsums_is _ _ _ _ HE.out _).mono ?_; rintro e' w5 ⟨rfl, hb5⟩))
  rename_i hheld
  have E5 := Lib.hid (E4.out.below hheld.1)
  clear hheld
  have p0 := E5.out.hd.lt
  have z0 := E5.out.hd.cell 0
  have z1 := E5.out.hd.cell 1
  have z2 := E5.out.hd.cell 2
  have p1 := E5.out.tl.hd.lt
  have y0 := E5.out.tl.hd.cell 0
  have y1 := E5.out.tl.hd.cell 1
  have y2 := E5.out.tl.hd.cell 2
  have p2 := E5.out.tl.tl.hd.lt
  have x0 := E5.out.tl.tl.hd.cell 0
  have x1 := E5.out.tl.tl.hd.cell 1
  have x2 := E5.out.tl.tl.hd.cell 2
  have p3 := E5.out.tl.tl.tl.hd.lt
  have c0 := E5.out.tl.tl.tl.hd.cell 0
  have c1 := E5.out.tl.tl.tl.hd.cell 1
  have c2 := E5.out.tl.tl.tl.hd.cell 2
  have p4 := E5.out.tl.tl.tl.tl.hd.lt
  have a0 := E5.out.tl.tl.tl.tl.hd.cell 0
  have a1 := E5.out.tl.tl.tl.tl.hd.cell 1
  have a2 := E5.out.tl.tl.tl.tl.hd.cell 2
  simp at z0 z1 z2 y0 y1 y2 x0 x1 x2 c0 c1 c2 a0 a1 a2 p0 p1 p2 p3 p4
  go_wp2_with (go_at_call 8; refine (rval_is _ _ HV.out _).mono ?_; rintro e' w' ⟨rfl, rfl⟩)
  refine (rsums_is _ _ _ _ HF.out _).mono ?_
  rintro e' w6 ⟨rfl, hb6⟩
  have E6 := Lib.hid (E5.out.below hb6)
  clear hb6 z0 z1 z2 y0 y1 y2 x0 x1 x2 c0 c1 c2 a0 a1 a2 p0 p1 p2 p3 p4
  have p0 := E6.out.hd.lt
  have z0 := E6.out.hd.cell 0
  have z1 := E6.out.hd.cell 1
  have z2 := E6.out.hd.cell 2
  have p1 := E6.out.tl.hd.lt
  have y0 := E6.out.tl.hd.cell 0
  have y1 := E6.out.tl.hd.cell 1
  have y2 := E6.out.tl.hd.cell 2
  have p2 := E6.out.tl.tl.hd.lt
  have x0 := E6.out.tl.tl.hd.cell 0
  have x1 := E6.out.tl.tl.hd.cell 1
  have x2 := E6.out.tl.tl.hd.cell 2
  have p3 := E6.out.tl.tl.tl.hd.lt
  have c0 := E6.out.tl.tl.tl.hd.cell 0
  have c1 := E6.out.tl.tl.tl.hd.cell 1
  have c2 := E6.out.tl.tl.tl.hd.cell 2
  have p4 := E6.out.tl.tl.tl.tl.hd.lt
  have a0 := E6.out.tl.tl.tl.tl.hd.cell 0
  have a1 := E6.out.tl.tl.tl.tl.hd.cell 1
  have a2 := E6.out.tl.tl.tl.tl.hd.cell 2
  simp at z0 z1 z2 y0 y1 y2 x0 x1 x2 c0 c1 c2 a0 a1 a2 p0 p1 p2 p3 p4
  go_wp2_with fail
  refine (rsums_is _ _ _ _ HL.out _).mono ?_
  rintro e' w7 ⟨rfl, hb7⟩
  have E7 := Lib.hid ((E6.out.lay _ _).below hb7)
  clear hb7 z0 z1 z2 y0 y1 y2 x0 x1 x2 c0 c1 c2 a0 a1 a2 p0 p1 p2 p3 p4
  have p0 := E7.out.hd.lt
  have l0 := E7.out.hd.cell 0
  have l1 := E7.out.hd.cell 1
  have l2 := E7.out.hd.cell 2
  have p1 := E7.out.tl.hd.lt
  have z0 := E7.out.tl.hd.cell 0
  have z1 := E7.out.tl.hd.cell 1
  have z2 := E7.out.tl.hd.cell 2
  have p2 := E7.out.tl.tl.hd.lt
  have y0 := E7.out.tl.tl.hd.cell 0
  have y1 := E7.out.tl.tl.hd.cell 1
  have y2 := E7.out.tl.tl.hd.cell 2
  have p3 := E7.out.tl.tl.tl.hd.lt
  have x0 := E7.out.tl.tl.tl.hd.cell 0
  have x1 := E7.out.tl.tl.tl.hd.cell 1
  have x2 := E7.out.tl.tl.tl.hd.cell 2
  have p4 := E7.out.tl.tl.tl.tl.hd.lt
  have c0 := E7.out.tl.tl.tl.tl.hd.cell 0
  have c1 := E7.out.tl.tl.tl.tl.hd.cell 1
  have c2 := E7.out.tl.tl.tl.tl.hd.cell 2
  have p5 := E7.out.tl.tl.tl.tl.tl.hd.lt
  have a0 := E7.out.tl.tl.tl.tl.tl.hd.cell 0
  have a1 := E7.out.tl.tl.tl.tl.tl.hd.cell 1
  have a2 := E7.out.tl.tl.tl.tl.tl.hd.cell 2
  simp at l0 l1 l2 z0 z1 z2 y0 y1 y2 x0 x1 x2 c0 c1 c2 a0 a1 a2 p0 p1 p2 p3 p4 p5
  go_wp2
  go_ret
  exact ⟨rfl, E7.out.bel⟩

set_option maxHeartbeats 4000000 in
set_option maxRecDepth 100000 in
theorem sa_val_k (n s q n' s' q' v : Int) (he : sumsE n s q = 0) (hv : wi v 0 16777216 = false) (hf : sumsE n' s' q' = 0) (hj : n + n' ≤ 64) (w : World) :
    Calls Try.prog 3 #[.agg #[.int .i64 n, .int .i64 s, .int .i64 q], .agg #[.int .i64 n', .int .i64 s', .int .i64 q'], .int .i64 v] w fun e' w' => e' = .returned (.bool true) ∧ Below w.heap.size w w' := by
  have HE := Lib.hid he
  clear he
  have HV := Lib.hid hv
  clear hv
  have HF := Lib.hid hf
  clear hf
  obtain ⟨b1', b2', -, -, -, -⟩ := (sumsE_zero HF.out).1.bounds
  obtain ⟨h0', h1', h2', h3', h4', h5'⟩ := (sumsE_zero HF.out).1
  obtain ⟨b1, b2, -, -, -, -⟩ := (sumsE_zero HE.out).1.bounds
  obtain ⟨h0, h1, h2, h3, h4, h5⟩ := (sumsE_zero HE.out).1
  have E := Lib.hid (((Env.start w).lay #[.int .i64 n, .int .i64 s, .int .i64 q] 23).lay #[.int .i64 n', .int .i64 s', .int .i64 q'] 23)
  simp only [World.size_alloc] at E
  go_enter Try.func3, Try.ntmps3
  go_wp2_with fail
  refine (add_val _ _ _ _ HE.out HV.out _).mono ?_
  rintro e' w1 ⟨rfl, hb1⟩
  have E1 := Lib.hid (E.out.below hb1)
  clear hb1
  have p0 := E1.out.hd.lt
  have c0 := E1.out.hd.cell 0
  have c1 := E1.out.hd.cell 1
  have c2 := E1.out.hd.cell 2
  have p1 := E1.out.tl.hd.lt
  have a0 := E1.out.tl.hd.cell 0
  have a1 := E1.out.tl.hd.cell 1
  have a2 := E1.out.tl.hd.cell 2
  simp at c0 c1 c2 a0 a1 a2 p0 p1
  go_wp2_with fail
  refine (less_val _ _ _ _ HE.out HV.out _).mono ?_
  rintro e' w2 ⟨rfl, hb2⟩
  have E2 := Lib.hid ((E1.out.lay _ _).below hb2)
  clear hb2 c0 c1 c2 a0 a1 a2 p0 p1
  have p0 := E2.out.hd.lt
  have x0 := E2.out.hd.cell 0
  have x1 := E2.out.hd.cell 1
  have x2 := E2.out.hd.cell 2
  have p1 := E2.out.tl.hd.lt
  have c0 := E2.out.tl.hd.cell 0
  have c1 := E2.out.tl.hd.cell 1
  have c2 := E2.out.tl.hd.cell 2
  have p2 := E2.out.tl.tl.hd.lt
  have a0 := E2.out.tl.tl.hd.cell 0
  have a1 := E2.out.tl.tl.hd.cell 1
  have a2 := E2.out.tl.tl.hd.cell 2
  simp at x0 x1 x2 c0 c1 c2 a0 a1 a2 p0 p1 p2
  go_wp2_with fail
  refine (join_ok _ _ _ _ _ _ HE.out HF.out hj _).mono ?_
  rintro e' w3 ⟨rfl, hb3⟩
  have E3 := Lib.hid ((E2.out.lay _ _).below hb3)
  clear hb3 x0 x1 x2 c0 c1 c2 a0 a1 a2 p0 p1 p2
  go_wp2_with fail
  generalize hW : (w3.alloc (.cells #[.int .i64 (n + n'), .int .i64 (s + s'), .int .i64 (q + q')] 23)) = W2
  have e3 := E3.out.lay #[.int .i64 (n + n'), .int .i64 (s + s'), .int .i64 (q + q')] 23
  rw [hW] at e3
  have E4 := Lib.hid e3
  clear e3 hW
  have HS := Lib.hid (show ∀ w', Below W2.heap.size W2 w' → (Below W2.heap.size W2 w' ∧ w'.cell? ⟨w.heap.size, 0, none⟩ = some (.int .i64 n) ∧ w'.cell? ⟨w.heap.size, 1, none⟩ = some (.int .i64 s) ∧ w'.cell? ⟨w.heap.size, 2, none⟩ = some (.int .i64 q))
    from fun w' e8 => ⟨e8, (E4.out.below e8).tl.tl.tl.tl.hd.cell 0, (E4.out.below e8).tl.tl.tl.tl.hd.cell 1, (E4.out.below e8).tl.tl.tl.tl.hd.cell 2⟩)
  have tok1 : True := trivial
  go_region_held3 (fun w' => Below W2.heap.size W2 w' ∧ w'.cell? ⟨w.heap.size, 0, none⟩ = some (.int .i64 n) ∧ w'.cell? ⟨w.heap.size, 1, none⟩ = some (.int .i64 s) ∧ w'.cell? ⟨w.heap.size, 2, none⟩ = some (.int .i64 q))
    ((refine HS.out _ ?_; first | exact (Below.refl _ _).drew | exact And.left (by assumption) | exact Below.trans (And.left (by assumption)) (Below.mono hb5 (Below.size (And.left (by assumption)))) | exact Below.trans (And.left (by assumption)) (Below.mono hb4 (Below.size (And.left (by assumption))))))
    (first
      | (go_at_call 7; have _t := tok1; refine (rsums_is _ _ _ _ HE.out _).mono ?_; rintro e' w4 ⟨rfl, hb4⟩; clear tok1 _t)
      | (go_at_call 7; refine (rsums_is _ _ _ _ HE.out _).mono ?_; rintro e' w5 ⟨rfl, hb5⟩))
  rename_i hheld
  have E5 := Lib.hid (E4.out.below hheld.1)
  clear hheld
  have p0 := E5.out.hd.lt
  have z0 := E5.out.hd.cell 0
  have z1 := E5.out.hd.cell 1
  have z2 := E5.out.hd.cell 2
  have p1 := E5.out.tl.hd.lt
  have y0 := E5.out.tl.hd.cell 0
  have y1 := E5.out.tl.hd.cell 1
  have y2 := E5.out.tl.hd.cell 2
  have p2 := E5.out.tl.tl.hd.lt
  have x0 := E5.out.tl.tl.hd.cell 0
  have x1 := E5.out.tl.tl.hd.cell 1
  have x2 := E5.out.tl.tl.hd.cell 2
  have p3 := E5.out.tl.tl.tl.hd.lt
  have c0 := E5.out.tl.tl.tl.hd.cell 0
  have c1 := E5.out.tl.tl.tl.hd.cell 1
  have c2 := E5.out.tl.tl.tl.hd.cell 2
  have p4 := E5.out.tl.tl.tl.tl.hd.lt
  have a0 := E5.out.tl.tl.tl.tl.hd.cell 0
  have a1 := E5.out.tl.tl.tl.tl.hd.cell 1
  have a2 := E5.out.tl.tl.tl.tl.hd.cell 2
  simp at z0 z1 z2 y0 y1 y2 x0 x1 x2 c0 c1 c2 a0 a1 a2 p0 p1 p2 p3 p4
  go_wp2_with (go_at_call 8; refine (rval_is _ _ HV.out _).mono ?_; rintro e' w' ⟨rfl, rfl⟩)
  refine (rsums_is _ _ _ _ HF.out _).mono ?_
  rintro e' w6 ⟨rfl, hb6⟩
  have E6 := Lib.hid (E5.out.below hb6)
  clear hb6 z0 z1 z2 y0 y1 y2 x0 x1 x2 c0 c1 c2 a0 a1 a2 p0 p1 p2 p3 p4
  have p0 := E6.out.hd.lt
  have z0 := E6.out.hd.cell 0
  have z1 := E6.out.hd.cell 1
  have z2 := E6.out.hd.cell 2
  have p1 := E6.out.tl.hd.lt
  have y0 := E6.out.tl.hd.cell 0
  have y1 := E6.out.tl.hd.cell 1
  have y2 := E6.out.tl.hd.cell 2
  have p2 := E6.out.tl.tl.hd.lt
  have x0 := E6.out.tl.tl.hd.cell 0
  have x1 := E6.out.tl.tl.hd.cell 1
  have x2 := E6.out.tl.tl.hd.cell 2
  have p3 := E6.out.tl.tl.tl.hd.lt
  have c0 := E6.out.tl.tl.tl.hd.cell 0
  have c1 := E6.out.tl.tl.tl.hd.cell 1
  have c2 := E6.out.tl.tl.tl.hd.cell 2
  have p4 := E6.out.tl.tl.tl.tl.hd.lt
  have a0 := E6.out.tl.tl.tl.tl.hd.cell 0
  have a1 := E6.out.tl.tl.tl.tl.hd.cell 1
  have a2 := E6.out.tl.tl.tl.tl.hd.cell 2
  simp at z0 z1 z2 y0 y1 y2 x0 x1 x2 c0 c1 c2 a0 a1 a2 p0 p1 p2 p3 p4
  go_wp2
  go_ret
  exact ⟨rfl, E6.out.bel⟩

set_option maxHeartbeats 4000000 in
set_option maxRecDepth 100000 in
theorem sa_kun (n s q n' s' q' v : Int) (he : sumsE n s q = 0) (hv : wi v 0 16777216 = true) (hf : sumsE n' s' q' = 0) (hj : n + n' ≤ 64) (hu : 64 ≤ n) (l : Int) (hl : sumsE (n - 1) (s - v) (q - v * v) = l) (hm : l ≠ 0) (w : World) :
    Calls Try.prog 3 #[.agg #[.int .i64 n, .int .i64 s, .int .i64 q], .agg #[.int .i64 n', .int .i64 s', .int .i64 q'], .int .i64 v] w fun e' w' => e' = .returned (.bool true) ∧ Below w.heap.size w w' := by
  have HE := Lib.hid he
  clear he
  have HV := Lib.hid hv
  clear hv
  have HL := Lib.hid hl
  clear hl
  have HF := Lib.hid hf
  clear hf
  obtain ⟨b1', b2', -, -, -, -⟩ := (sumsE_zero HF.out).1.bounds
  obtain ⟨h0', h1', h2', h3', h4', h5'⟩ := (sumsE_zero HF.out).1
  obtain ⟨b1, b2, -, -, -, -⟩ := (sumsE_zero HE.out).1.bounds
  obtain ⟨h0, h1, h2, h3, h4, h5⟩ := (sumsE_zero HE.out).1
  obtain ⟨v0, v1, v2, v3⟩ := sq_bounds HV.out
  have E := Lib.hid (((Env.start w).lay #[.int .i64 n, .int .i64 s, .int .i64 q] 23).lay #[.int .i64 n', .int .i64 s', .int .i64 q'] 23)
  simp only [World.size_alloc] at E
  go_enter Try.func3, Try.ntmps3
  go_wp2_with fail
  refine (add_full _ _ _ _ HE.out HV.out hu _).mono ?_
  rintro e' w1 ⟨rfl, hb1⟩
  have E1 := Lib.hid (E.out.below hb1)
  clear hb1
  have p0 := E1.out.hd.lt
  have c0 := E1.out.hd.cell 0
  have c1 := E1.out.hd.cell 1
  have c2 := E1.out.hd.cell 2
  have p1 := E1.out.tl.hd.lt
  have a0 := E1.out.tl.hd.cell 0
  have a1 := E1.out.tl.hd.cell 1
  have a2 := E1.out.tl.hd.cell 2
  simp at c0 c1 c2 a0 a1 a2 p0 p1
  go_wp2_with fail
  refine (less_none _ _ _ _ HE.out HV.out _ HL.out hm _).mono ?_
  rintro e' w2 ⟨rfl, hb2⟩
  have E2 := Lib.hid ((E1.out.lay _ _).below hb2)
  clear hb2 c0 c1 c2 a0 a1 a2 p0 p1
  have p0 := E2.out.hd.lt
  have x0 := E2.out.hd.cell 0
  have x1 := E2.out.hd.cell 1
  have x2 := E2.out.hd.cell 2
  have p1 := E2.out.tl.hd.lt
  have c0 := E2.out.tl.hd.cell 0
  have c1 := E2.out.tl.hd.cell 1
  have c2 := E2.out.tl.hd.cell 2
  have p2 := E2.out.tl.tl.hd.lt
  have a0 := E2.out.tl.tl.hd.cell 0
  have a1 := E2.out.tl.tl.hd.cell 1
  have a2 := E2.out.tl.tl.hd.cell 2
  simp at x0 x1 x2 c0 c1 c2 a0 a1 a2 p0 p1 p2
  go_wp2_with fail
  refine (join_ok _ _ _ _ _ _ HE.out HF.out hj _).mono ?_
  rintro e' w3 ⟨rfl, hb3⟩
  have E3 := Lib.hid ((E2.out.lay _ _).below hb3)
  clear hb3 x0 x1 x2 c0 c1 c2 a0 a1 a2 p0 p1 p2
  go_wp2_with fail
  generalize hW : (w3.alloc (.cells #[.int .i64 (n + n'), .int .i64 (s + s'), .int .i64 (q + q')] 23)) = W2
  have e3 := E3.out.lay #[.int .i64 (n + n'), .int .i64 (s + s'), .int .i64 (q + q')] 23
  rw [hW] at e3
  have E4 := Lib.hid e3
  clear e3 hW
  have HS := Lib.hid (show ∀ w', Below W2.heap.size W2 w' → (Below W2.heap.size W2 w' ∧ w'.cell? ⟨w.heap.size, 0, none⟩ = some (.int .i64 n) ∧ w'.cell? ⟨w.heap.size, 1, none⟩ = some (.int .i64 s) ∧ w'.cell? ⟨w.heap.size, 2, none⟩ = some (.int .i64 q))
    from fun w' e8 => ⟨e8, (E4.out.below e8).tl.tl.tl.tl.hd.cell 0, (E4.out.below e8).tl.tl.tl.tl.hd.cell 1, (E4.out.below e8).tl.tl.tl.tl.hd.cell 2⟩)
  have tok1 : True := trivial
  go_region_held3 (fun w' => Below W2.heap.size W2 w' ∧ w'.cell? ⟨w.heap.size, 0, none⟩ = some (.int .i64 n) ∧ w'.cell? ⟨w.heap.size, 1, none⟩ = some (.int .i64 s) ∧ w'.cell? ⟨w.heap.size, 2, none⟩ = some (.int .i64 q))
    ((refine HS.out _ ?_; first | exact (Below.refl _ _).drew | exact And.left (by assumption) | exact Below.trans (And.left (by assumption)) (Below.mono hb5 (Below.size (And.left (by assumption)))) | exact Below.trans (And.left (by assumption)) (Below.mono hb4 (Below.size (And.left (by assumption))))))
    (first
      | (go_at_call 7; have _t := tok1; refine (rsums_is _ _ _ _ HE.out _).mono ?_; rintro e' w4 ⟨rfl, hb4⟩; clear tok1 _t)
      | (go_at_call 7; refine (rsums_is _ _ _ _ HE.out _).mono ?_; rintro e' w5 ⟨rfl, hb5⟩))
  rename_i hheld
  have E5 := Lib.hid (E4.out.below hheld.1)
  clear hheld
  have p0 := E5.out.hd.lt
  have z0 := E5.out.hd.cell 0
  have z1 := E5.out.hd.cell 1
  have z2 := E5.out.hd.cell 2
  have p1 := E5.out.tl.hd.lt
  have y0 := E5.out.tl.hd.cell 0
  have y1 := E5.out.tl.hd.cell 1
  have y2 := E5.out.tl.hd.cell 2
  have p2 := E5.out.tl.tl.hd.lt
  have x0 := E5.out.tl.tl.hd.cell 0
  have x1 := E5.out.tl.tl.hd.cell 1
  have x2 := E5.out.tl.tl.hd.cell 2
  have p3 := E5.out.tl.tl.tl.hd.lt
  have c0 := E5.out.tl.tl.tl.hd.cell 0
  have c1 := E5.out.tl.tl.tl.hd.cell 1
  have c2 := E5.out.tl.tl.tl.hd.cell 2
  have p4 := E5.out.tl.tl.tl.tl.hd.lt
  have a0 := E5.out.tl.tl.tl.tl.hd.cell 0
  have a1 := E5.out.tl.tl.tl.tl.hd.cell 1
  have a2 := E5.out.tl.tl.tl.tl.hd.cell 2
  simp at z0 z1 z2 y0 y1 y2 x0 x1 x2 c0 c1 c2 a0 a1 a2 p0 p1 p2 p3 p4
  go_wp2_with (go_at_call 8; refine (rval_is _ _ HV.out _).mono ?_; rintro e' w' ⟨rfl, rfl⟩)
  refine (rsums_is _ _ _ _ HF.out _).mono ?_
  rintro e' w6 ⟨rfl, hb6⟩
  have E6 := Lib.hid (E5.out.below hb6)
  clear hb6 z0 z1 z2 y0 y1 y2 x0 x1 x2 c0 c1 c2 a0 a1 a2 p0 p1 p2 p3 p4
  have p0 := E6.out.hd.lt
  have z0 := E6.out.hd.cell 0
  have z1 := E6.out.hd.cell 1
  have z2 := E6.out.hd.cell 2
  have p1 := E6.out.tl.hd.lt
  have y0 := E6.out.tl.hd.cell 0
  have y1 := E6.out.tl.hd.cell 1
  have y2 := E6.out.tl.hd.cell 2
  have p2 := E6.out.tl.tl.hd.lt
  have x0 := E6.out.tl.tl.hd.cell 0
  have x1 := E6.out.tl.tl.hd.cell 1
  have x2 := E6.out.tl.tl.hd.cell 2
  have p3 := E6.out.tl.tl.tl.hd.lt
  have c0 := E6.out.tl.tl.tl.hd.cell 0
  have c1 := E6.out.tl.tl.tl.hd.cell 1
  have c2 := E6.out.tl.tl.tl.hd.cell 2
  have p4 := E6.out.tl.tl.tl.tl.hd.lt
  have a0 := E6.out.tl.tl.tl.tl.hd.cell 0
  have a1 := E6.out.tl.tl.tl.tl.hd.cell 1
  have a2 := E6.out.tl.tl.tl.tl.hd.cell 2
  simp at z0 z1 z2 y0 y1 y2 x0 x1 x2 c0 c1 c2 a0 a1 a2 p0 p1 p2 p3 p4
  go_wp2_with fail
  refine (rsums_is _ _ _ _ HL.out _).mono ?_
  rintro e' w7 ⟨rfl, hb7⟩
  have E7 := Lib.hid ((E6.out.lay _ _).below hb7)
  clear hb7 z0 z1 z2 y0 y1 y2 x0 x1 x2 c0 c1 c2 a0 a1 a2 p0 p1 p2 p3 p4
  have p0 := E7.out.hd.lt
  have l0 := E7.out.hd.cell 0
  have l1 := E7.out.hd.cell 1
  have l2 := E7.out.hd.cell 2
  have p1 := E7.out.tl.hd.lt
  have z0 := E7.out.tl.hd.cell 0
  have z1 := E7.out.tl.hd.cell 1
  have z2 := E7.out.tl.hd.cell 2
  have p2 := E7.out.tl.tl.hd.lt
  have y0 := E7.out.tl.tl.hd.cell 0
  have y1 := E7.out.tl.tl.hd.cell 1
  have y2 := E7.out.tl.tl.hd.cell 2
  have p3 := E7.out.tl.tl.tl.hd.lt
  have x0 := E7.out.tl.tl.tl.hd.cell 0
  have x1 := E7.out.tl.tl.tl.hd.cell 1
  have x2 := E7.out.tl.tl.tl.hd.cell 2
  have p4 := E7.out.tl.tl.tl.tl.hd.lt
  have c0 := E7.out.tl.tl.tl.tl.hd.cell 0
  have c1 := E7.out.tl.tl.tl.tl.hd.cell 1
  have c2 := E7.out.tl.tl.tl.tl.hd.cell 2
  have p5 := E7.out.tl.tl.tl.tl.tl.hd.lt
  have a0 := E7.out.tl.tl.tl.tl.tl.hd.cell 0
  have a1 := E7.out.tl.tl.tl.tl.tl.hd.cell 1
  have a2 := E7.out.tl.tl.tl.tl.tl.hd.cell 2
  simp at l0 l1 l2 z0 z1 z2 y0 y1 y2 x0 x1 x2 c0 c1 c2 a0 a1 a2 p0 p1 p2 p3 p4 p5
  go_wp2
  go_ret
  exact ⟨rfl, E7.out.bel⟩

set_option maxHeartbeats 4000000 in
set_option maxRecDepth 100000 in
theorem sa_kuy (n s q n' s' q' v : Int) (he : sumsE n s q = 0) (hv : wi v 0 16777216 = true) (hf : sumsE n' s' q' = 0) (hj : n + n' ≤ 64) (hu : 64 ≤ n) (hl : sumsE (n - 1) (s - v) (q - v * v) = 0) (w : World) :
    Calls Try.prog 3 #[.agg #[.int .i64 n, .int .i64 s, .int .i64 q], .agg #[.int .i64 n', .int .i64 s', .int .i64 q'], .int .i64 v] w fun e' w' => e' = .returned (.bool true) ∧ Below w.heap.size w w' := by
  have HE := Lib.hid he
  clear he
  have HV := Lib.hid hv
  clear hv
  have HL := Lib.hid hl
  clear hl
  have HF := Lib.hid hf
  clear hf
  obtain ⟨b1', b2', -, -, -, -⟩ := (sumsE_zero HF.out).1.bounds
  obtain ⟨h0', h1', h2', h3', h4', h5'⟩ := (sumsE_zero HF.out).1
  obtain ⟨b1, b2, -, -, -, -⟩ := (sumsE_zero HE.out).1.bounds
  obtain ⟨h0, h1, h2, h3, h4, h5⟩ := (sumsE_zero HE.out).1
  obtain ⟨v0, v1, v2, v3⟩ := sq_bounds HV.out
  have E := Lib.hid (((Env.start w).lay #[.int .i64 n, .int .i64 s, .int .i64 q] 23).lay #[.int .i64 n', .int .i64 s', .int .i64 q'] 23)
  simp only [World.size_alloc] at E
  go_enter Try.func3, Try.ntmps3
  go_wp2_with fail
  refine (add_full _ _ _ _ HE.out HV.out hu _).mono ?_
  rintro e' w1 ⟨rfl, hb1⟩
  have E1 := Lib.hid (E.out.below hb1)
  clear hb1
  have p0 := E1.out.hd.lt
  have c0 := E1.out.hd.cell 0
  have c1 := E1.out.hd.cell 1
  have c2 := E1.out.hd.cell 2
  have p1 := E1.out.tl.hd.lt
  have a0 := E1.out.tl.hd.cell 0
  have a1 := E1.out.tl.hd.cell 1
  have a2 := E1.out.tl.hd.cell 2
  simp at c0 c1 c2 a0 a1 a2 p0 p1
  go_wp2_with fail
  refine (less_ok _ _ _ _ HE.out HV.out HL.out _).mono ?_
  rintro e' w2 ⟨rfl, hb2⟩
  have E2 := Lib.hid ((E1.out.lay _ _).below hb2)
  clear hb2 c0 c1 c2 a0 a1 a2 p0 p1
  have p0 := E2.out.hd.lt
  have x0 := E2.out.hd.cell 0
  have x1 := E2.out.hd.cell 1
  have x2 := E2.out.hd.cell 2
  have p1 := E2.out.tl.hd.lt
  have c0 := E2.out.tl.hd.cell 0
  have c1 := E2.out.tl.hd.cell 1
  have c2 := E2.out.tl.hd.cell 2
  have p2 := E2.out.tl.tl.hd.lt
  have a0 := E2.out.tl.tl.hd.cell 0
  have a1 := E2.out.tl.tl.hd.cell 1
  have a2 := E2.out.tl.tl.hd.cell 2
  simp at x0 x1 x2 c0 c1 c2 a0 a1 a2 p0 p1 p2
  go_wp2_with fail
  refine (join_ok _ _ _ _ _ _ HE.out HF.out hj _).mono ?_
  rintro e' w3 ⟨rfl, hb3⟩
  have E3 := Lib.hid ((E2.out.lay _ _).below hb3)
  clear hb3 x0 x1 x2 c0 c1 c2 a0 a1 a2 p0 p1 p2
  go_wp2_with fail
  generalize hW : (w3.alloc (.cells #[.int .i64 (n + n'), .int .i64 (s + s'), .int .i64 (q + q')] 23)) = W2
  have e3 := E3.out.lay #[.int .i64 (n + n'), .int .i64 (s + s'), .int .i64 (q + q')] 23
  rw [hW] at e3
  have E4 := Lib.hid e3
  clear e3 hW
  have HS := Lib.hid (show ∀ w', Below W2.heap.size W2 w' → (Below W2.heap.size W2 w' ∧ w'.cell? ⟨w.heap.size, 0, none⟩ = some (.int .i64 n) ∧ w'.cell? ⟨w.heap.size, 1, none⟩ = some (.int .i64 s) ∧ w'.cell? ⟨w.heap.size, 2, none⟩ = some (.int .i64 q))
    from fun w' e8 => ⟨e8, (E4.out.below e8).tl.tl.tl.tl.hd.cell 0, (E4.out.below e8).tl.tl.tl.tl.hd.cell 1, (E4.out.below e8).tl.tl.tl.tl.hd.cell 2⟩)
  have tok1 : True := trivial
  go_region_held3 (fun w' => Below W2.heap.size W2 w' ∧ w'.cell? ⟨w.heap.size, 0, none⟩ = some (.int .i64 n) ∧ w'.cell? ⟨w.heap.size, 1, none⟩ = some (.int .i64 s) ∧ w'.cell? ⟨w.heap.size, 2, none⟩ = some (.int .i64 q))
    ((refine HS.out _ ?_; first | exact (Below.refl _ _).drew | exact And.left (by assumption) | exact Below.trans (And.left (by assumption)) (Below.mono hb5 (Below.size (And.left (by assumption)))) | exact Below.trans (And.left (by assumption)) (Below.mono hb4 (Below.size (And.left (by assumption))))))
    (first
      | (go_at_call 7; have _t := tok1; refine (rsums_is _ _ _ _ HE.out _).mono ?_; rintro e' w4 ⟨rfl, hb4⟩; clear tok1 _t)
      | (go_at_call 7; refine (rsums_is _ _ _ _ HE.out _).mono ?_; rintro e' w5 ⟨rfl, hb5⟩))
  rename_i hheld
  have E5 := Lib.hid (E4.out.below hheld.1)
  clear hheld
  have p0 := E5.out.hd.lt
  have z0 := E5.out.hd.cell 0
  have z1 := E5.out.hd.cell 1
  have z2 := E5.out.hd.cell 2
  have p1 := E5.out.tl.hd.lt
  have y0 := E5.out.tl.hd.cell 0
  have y1 := E5.out.tl.hd.cell 1
  have y2 := E5.out.tl.hd.cell 2
  have p2 := E5.out.tl.tl.hd.lt
  have x0 := E5.out.tl.tl.hd.cell 0
  have x1 := E5.out.tl.tl.hd.cell 1
  have x2 := E5.out.tl.tl.hd.cell 2
  have p3 := E5.out.tl.tl.tl.hd.lt
  have c0 := E5.out.tl.tl.tl.hd.cell 0
  have c1 := E5.out.tl.tl.tl.hd.cell 1
  have c2 := E5.out.tl.tl.tl.hd.cell 2
  have p4 := E5.out.tl.tl.tl.tl.hd.lt
  have a0 := E5.out.tl.tl.tl.tl.hd.cell 0
  have a1 := E5.out.tl.tl.tl.tl.hd.cell 1
  have a2 := E5.out.tl.tl.tl.tl.hd.cell 2
  simp at z0 z1 z2 y0 y1 y2 x0 x1 x2 c0 c1 c2 a0 a1 a2 p0 p1 p2 p3 p4
  go_wp2_with (go_at_call 8; refine (rval_is _ _ HV.out _).mono ?_; rintro e' w' ⟨rfl, rfl⟩)
  refine (rsums_is _ _ _ _ HF.out _).mono ?_
  rintro e' w6 ⟨rfl, hb6⟩
  have E6 := Lib.hid (E5.out.below hb6)
  clear hb6 z0 z1 z2 y0 y1 y2 x0 x1 x2 c0 c1 c2 a0 a1 a2 p0 p1 p2 p3 p4
  have p0 := E6.out.hd.lt
  have z0 := E6.out.hd.cell 0
  have z1 := E6.out.hd.cell 1
  have z2 := E6.out.hd.cell 2
  have p1 := E6.out.tl.hd.lt
  have y0 := E6.out.tl.hd.cell 0
  have y1 := E6.out.tl.hd.cell 1
  have y2 := E6.out.tl.hd.cell 2
  have p2 := E6.out.tl.tl.hd.lt
  have x0 := E6.out.tl.tl.hd.cell 0
  have x1 := E6.out.tl.tl.hd.cell 1
  have x2 := E6.out.tl.tl.hd.cell 2
  have p3 := E6.out.tl.tl.tl.hd.lt
  have c0 := E6.out.tl.tl.tl.hd.cell 0
  have c1 := E6.out.tl.tl.tl.hd.cell 1
  have c2 := E6.out.tl.tl.tl.hd.cell 2
  have p4 := E6.out.tl.tl.tl.tl.hd.lt
  have a0 := E6.out.tl.tl.tl.tl.hd.cell 0
  have a1 := E6.out.tl.tl.tl.tl.hd.cell 1
  have a2 := E6.out.tl.tl.tl.tl.hd.cell 2
  simp at z0 z1 z2 y0 y1 y2 x0 x1 x2 c0 c1 c2 a0 a1 a2 p0 p1 p2 p3 p4
  go_wp2_with fail
  refine (rsums_is _ _ _ _ HL.out _).mono ?_
  rintro e' w7 ⟨rfl, hb7⟩
  have E7 := Lib.hid ((E6.out.lay _ _).below hb7)
  clear hb7 z0 z1 z2 y0 y1 y2 x0 x1 x2 c0 c1 c2 a0 a1 a2 p0 p1 p2 p3 p4
  have p0 := E7.out.hd.lt
  have l0 := E7.out.hd.cell 0
  have l1 := E7.out.hd.cell 1
  have l2 := E7.out.hd.cell 2
  have p1 := E7.out.tl.hd.lt
  have z0 := E7.out.tl.hd.cell 0
  have z1 := E7.out.tl.hd.cell 1
  have z2 := E7.out.tl.hd.cell 2
  have p2 := E7.out.tl.tl.hd.lt
  have y0 := E7.out.tl.tl.hd.cell 0
  have y1 := E7.out.tl.tl.hd.cell 1
  have y2 := E7.out.tl.tl.hd.cell 2
  have p3 := E7.out.tl.tl.tl.hd.lt
  have x0 := E7.out.tl.tl.tl.hd.cell 0
  have x1 := E7.out.tl.tl.tl.hd.cell 1
  have x2 := E7.out.tl.tl.tl.hd.cell 2
  have p4 := E7.out.tl.tl.tl.tl.hd.lt
  have c0 := E7.out.tl.tl.tl.tl.hd.cell 0
  have c1 := E7.out.tl.tl.tl.tl.hd.cell 1
  have c2 := E7.out.tl.tl.tl.tl.hd.cell 2
  have p5 := E7.out.tl.tl.tl.tl.tl.hd.lt
  have a0 := E7.out.tl.tl.tl.tl.tl.hd.cell 0
  have a1 := E7.out.tl.tl.tl.tl.tl.hd.cell 1
  have a2 := E7.out.tl.tl.tl.tl.tl.hd.cell 2
  simp at l0 l1 l2 z0 z1 z2 y0 y1 y2 x0 x1 x2 c0 c1 c2 a0 a1 a2 p0 p1 p2 p3 p4 p5
  go_wp2
  go_ret
  exact ⟨rfl, E7.out.bel⟩

set_option maxHeartbeats 4000000 in
set_option maxRecDepth 100000 in
theorem sa_kon (n s q n' s' q' v : Int) (he : sumsE n s q = 0) (hv : wi v 0 16777216 = true) (hf : sumsE n' s' q' = 0) (hj : n + n' ≤ 64) (hu : n < 64) (l : Int) (hl : sumsE (n - 1) (s - v) (q - v * v) = l) (hm : l ≠ 0) (w : World) :
    Calls Try.prog 3 #[.agg #[.int .i64 n, .int .i64 s, .int .i64 q], .agg #[.int .i64 n', .int .i64 s', .int .i64 q'], .int .i64 v] w fun e' w' => e' = .returned (.bool true) ∧ Below w.heap.size w w' := by
  have HE := Lib.hid he
  clear he
  have HV := Lib.hid hv
  clear hv
  have HL := Lib.hid hl
  clear hl
  have HF := Lib.hid hf
  clear hf
  obtain ⟨b1', b2', -, -, -, -⟩ := (sumsE_zero HF.out).1.bounds
  obtain ⟨h0', h1', h2', h3', h4', h5'⟩ := (sumsE_zero HF.out).1
  obtain ⟨b1, b2, -, -, -, -⟩ := (sumsE_zero HE.out).1.bounds
  obtain ⟨h0, h1, h2, h3, h4, h5⟩ := (sumsE_zero HE.out).1
  obtain ⟨v0, v1, v2, v3⟩ := sq_bounds HV.out
  have E := Lib.hid (((Env.start w).lay #[.int .i64 n, .int .i64 s, .int .i64 q] 23).lay #[.int .i64 n', .int .i64 s', .int .i64 q'] 23)
  simp only [World.size_alloc] at E
  go_enter Try.func3, Try.ntmps3
  go_wp2_with fail
  refine (add_ok _ _ _ _ HE.out HV.out hu _).mono ?_
  rintro e' w1 ⟨rfl, hb1⟩
  have E1 := Lib.hid (E.out.below hb1)
  clear hb1
  have p0 := E1.out.hd.lt
  have c0 := E1.out.hd.cell 0
  have c1 := E1.out.hd.cell 1
  have c2 := E1.out.hd.cell 2
  have p1 := E1.out.tl.hd.lt
  have a0 := E1.out.tl.hd.cell 0
  have a1 := E1.out.tl.hd.cell 1
  have a2 := E1.out.tl.hd.cell 2
  simp at c0 c1 c2 a0 a1 a2 p0 p1
  go_wp2_with fail
  refine (less_none _ _ _ _ HE.out HV.out _ HL.out hm _).mono ?_
  rintro e' w2 ⟨rfl, hb2⟩
  have E2 := Lib.hid ((E1.out.lay _ _).below hb2)
  clear hb2 c0 c1 c2 a0 a1 a2 p0 p1
  have p0 := E2.out.hd.lt
  have x0 := E2.out.hd.cell 0
  have x1 := E2.out.hd.cell 1
  have x2 := E2.out.hd.cell 2
  have p1 := E2.out.tl.hd.lt
  have c0 := E2.out.tl.hd.cell 0
  have c1 := E2.out.tl.hd.cell 1
  have c2 := E2.out.tl.hd.cell 2
  have p2 := E2.out.tl.tl.hd.lt
  have a0 := E2.out.tl.tl.hd.cell 0
  have a1 := E2.out.tl.tl.hd.cell 1
  have a2 := E2.out.tl.tl.hd.cell 2
  simp at x0 x1 x2 c0 c1 c2 a0 a1 a2 p0 p1 p2
  go_wp2_with fail
  refine (join_ok _ _ _ _ _ _ HE.out HF.out hj _).mono ?_
  rintro e' w3 ⟨rfl, hb3⟩
  have E3 := Lib.hid ((E2.out.lay _ _).below hb3)
  clear hb3 x0 x1 x2 c0 c1 c2 a0 a1 a2 p0 p1 p2
  go_wp2_with fail
  generalize hW : (w3.alloc (.cells #[.int .i64 (n + n'), .int .i64 (s + s'), .int .i64 (q + q')] 23)) = W2
  have e3 := E3.out.lay #[.int .i64 (n + n'), .int .i64 (s + s'), .int .i64 (q + q')] 23
  rw [hW] at e3
  have E4 := Lib.hid e3
  clear e3 hW
  have HS := Lib.hid (show ∀ w', Below W2.heap.size W2 w' → (Below W2.heap.size W2 w' ∧ w'.cell? ⟨w.heap.size, 0, none⟩ = some (.int .i64 n) ∧ w'.cell? ⟨w.heap.size, 1, none⟩ = some (.int .i64 s) ∧ w'.cell? ⟨w.heap.size, 2, none⟩ = some (.int .i64 q))
    from fun w' e8 => ⟨e8, (E4.out.below e8).tl.tl.tl.tl.hd.cell 0, (E4.out.below e8).tl.tl.tl.tl.hd.cell 1, (E4.out.below e8).tl.tl.tl.tl.hd.cell 2⟩)
  have tok1 : True := trivial
  go_region_held3 (fun w' => Below W2.heap.size W2 w' ∧ w'.cell? ⟨w.heap.size, 0, none⟩ = some (.int .i64 n) ∧ w'.cell? ⟨w.heap.size, 1, none⟩ = some (.int .i64 s) ∧ w'.cell? ⟨w.heap.size, 2, none⟩ = some (.int .i64 q))
    ((refine HS.out _ ?_; first | exact (Below.refl _ _).drew | exact And.left (by assumption) | exact Below.trans (And.left (by assumption)) (Below.mono hb5 (Below.size (And.left (by assumption)))) | exact Below.trans (And.left (by assumption)) (Below.mono hb4 (Below.size (And.left (by assumption))))))
    (first
      | (go_at_call 7; have _t := tok1; refine (rsums_is _ _ _ _ HE.out _).mono ?_; rintro e' w4 ⟨rfl, hb4⟩; clear tok1 _t)
      | (go_at_call 7; refine (rsums_is _ _ _ _ HE.out _).mono ?_; rintro e' w5 ⟨rfl, hb5⟩))
  rename_i hheld
  have E5 := Lib.hid (E4.out.below hheld.1)
  clear hheld
  have p0 := E5.out.hd.lt
  have z0 := E5.out.hd.cell 0
  have z1 := E5.out.hd.cell 1
  have z2 := E5.out.hd.cell 2
  have p1 := E5.out.tl.hd.lt
  have y0 := E5.out.tl.hd.cell 0
  have y1 := E5.out.tl.hd.cell 1
  have y2 := E5.out.tl.hd.cell 2
  have p2 := E5.out.tl.tl.hd.lt
  have x0 := E5.out.tl.tl.hd.cell 0
  have x1 := E5.out.tl.tl.hd.cell 1
  have x2 := E5.out.tl.tl.hd.cell 2
  have p3 := E5.out.tl.tl.tl.hd.lt
  have c0 := E5.out.tl.tl.tl.hd.cell 0
  have c1 := E5.out.tl.tl.tl.hd.cell 1
  have c2 := E5.out.tl.tl.tl.hd.cell 2
  have p4 := E5.out.tl.tl.tl.tl.hd.lt
  have a0 := E5.out.tl.tl.tl.tl.hd.cell 0
  have a1 := E5.out.tl.tl.tl.tl.hd.cell 1
  have a2 := E5.out.tl.tl.tl.tl.hd.cell 2
  simp at z0 z1 z2 y0 y1 y2 x0 x1 x2 c0 c1 c2 a0 a1 a2 p0 p1 p2 p3 p4
  go_wp2_with (go_at_call 8; refine (rval_is _ _ HV.out _).mono ?_; rintro e' w' ⟨rfl, rfl⟩)
  refine (rsums_is _ _ _ _ HF.out _).mono ?_
  rintro e' w6 ⟨rfl, hb6⟩
  have E6 := Lib.hid (E5.out.below hb6)
  clear hb6 z0 z1 z2 y0 y1 y2 x0 x1 x2 c0 c1 c2 a0 a1 a2 p0 p1 p2 p3 p4
  have p0 := E6.out.hd.lt
  have z0 := E6.out.hd.cell 0
  have z1 := E6.out.hd.cell 1
  have z2 := E6.out.hd.cell 2
  have p1 := E6.out.tl.hd.lt
  have y0 := E6.out.tl.hd.cell 0
  have y1 := E6.out.tl.hd.cell 1
  have y2 := E6.out.tl.hd.cell 2
  have p2 := E6.out.tl.tl.hd.lt
  have x0 := E6.out.tl.tl.hd.cell 0
  have x1 := E6.out.tl.tl.hd.cell 1
  have x2 := E6.out.tl.tl.hd.cell 2
  have p3 := E6.out.tl.tl.tl.hd.lt
  have c0 := E6.out.tl.tl.tl.hd.cell 0
  have c1 := E6.out.tl.tl.tl.hd.cell 1
  have c2 := E6.out.tl.tl.tl.hd.cell 2
  have p4 := E6.out.tl.tl.tl.tl.hd.lt
  have a0 := E6.out.tl.tl.tl.tl.hd.cell 0
  have a1 := E6.out.tl.tl.tl.tl.hd.cell 1
  have a2 := E6.out.tl.tl.tl.tl.hd.cell 2
  simp at z0 z1 z2 y0 y1 y2 x0 x1 x2 c0 c1 c2 a0 a1 a2 p0 p1 p2 p3 p4
  go_wp2_with fail
  refine (rsums_is _ _ _ _ HL.out _).mono ?_
  rintro e' w7 ⟨rfl, hb7⟩
  have E7 := Lib.hid ((E6.out.lay _ _).below hb7)
  clear hb7 z0 z1 z2 y0 y1 y2 x0 x1 x2 c0 c1 c2 a0 a1 a2 p0 p1 p2 p3 p4
  have p0 := E7.out.hd.lt
  have l0 := E7.out.hd.cell 0
  have l1 := E7.out.hd.cell 1
  have l2 := E7.out.hd.cell 2
  have p1 := E7.out.tl.hd.lt
  have z0 := E7.out.tl.hd.cell 0
  have z1 := E7.out.tl.hd.cell 1
  have z2 := E7.out.tl.hd.cell 2
  have p2 := E7.out.tl.tl.hd.lt
  have y0 := E7.out.tl.tl.hd.cell 0
  have y1 := E7.out.tl.tl.hd.cell 1
  have y2 := E7.out.tl.tl.hd.cell 2
  have p3 := E7.out.tl.tl.tl.hd.lt
  have x0 := E7.out.tl.tl.tl.hd.cell 0
  have x1 := E7.out.tl.tl.tl.hd.cell 1
  have x2 := E7.out.tl.tl.tl.hd.cell 2
  have p4 := E7.out.tl.tl.tl.tl.hd.lt
  have c0 := E7.out.tl.tl.tl.tl.hd.cell 0
  have c1 := E7.out.tl.tl.tl.tl.hd.cell 1
  have c2 := E7.out.tl.tl.tl.tl.hd.cell 2
  have p5 := E7.out.tl.tl.tl.tl.tl.hd.lt
  have a0 := E7.out.tl.tl.tl.tl.tl.hd.cell 0
  have a1 := E7.out.tl.tl.tl.tl.tl.hd.cell 1
  have a2 := E7.out.tl.tl.tl.tl.tl.hd.cell 2
  simp at l0 l1 l2 z0 z1 z2 y0 y1 y2 x0 x1 x2 c0 c1 c2 a0 a1 a2 p0 p1 p2 p3 p4 p5
  go_wp2
  go_ret
  exact ⟨rfl, E7.out.bel⟩

set_option maxHeartbeats 4000000 in
set_option maxRecDepth 100000 in
theorem sa_koy (n s q n' s' q' v : Int) (he : sumsE n s q = 0) (hv : wi v 0 16777216 = true) (hf : sumsE n' s' q' = 0) (hj : n + n' ≤ 64) (hu : n < 64) (hl : sumsE (n - 1) (s - v) (q - v * v) = 0) (w : World) :
    Calls Try.prog 3 #[.agg #[.int .i64 n, .int .i64 s, .int .i64 q], .agg #[.int .i64 n', .int .i64 s', .int .i64 q'], .int .i64 v] w fun e' w' => e' = .returned (.bool true) ∧ Below w.heap.size w w' := by
  have HE := Lib.hid he
  clear he
  have HV := Lib.hid hv
  clear hv
  have HL := Lib.hid hl
  clear hl
  have HF := Lib.hid hf
  clear hf
  obtain ⟨b1', b2', -, -, -, -⟩ := (sumsE_zero HF.out).1.bounds
  obtain ⟨h0', h1', h2', h3', h4', h5'⟩ := (sumsE_zero HF.out).1
  obtain ⟨b1, b2, -, -, -, -⟩ := (sumsE_zero HE.out).1.bounds
  obtain ⟨h0, h1, h2, h3, h4, h5⟩ := (sumsE_zero HE.out).1
  obtain ⟨v0, v1, v2, v3⟩ := sq_bounds HV.out
  have E := Lib.hid (((Env.start w).lay #[.int .i64 n, .int .i64 s, .int .i64 q] 23).lay #[.int .i64 n', .int .i64 s', .int .i64 q'] 23)
  simp only [World.size_alloc] at E
  go_enter Try.func3, Try.ntmps3
  go_wp2_with fail
  refine (add_ok _ _ _ _ HE.out HV.out hu _).mono ?_
  rintro e' w1 ⟨rfl, hb1⟩
  have E1 := Lib.hid (E.out.below hb1)
  clear hb1
  have p0 := E1.out.hd.lt
  have c0 := E1.out.hd.cell 0
  have c1 := E1.out.hd.cell 1
  have c2 := E1.out.hd.cell 2
  have p1 := E1.out.tl.hd.lt
  have a0 := E1.out.tl.hd.cell 0
  have a1 := E1.out.tl.hd.cell 1
  have a2 := E1.out.tl.hd.cell 2
  simp at c0 c1 c2 a0 a1 a2 p0 p1
  go_wp2_with fail
  refine (less_ok _ _ _ _ HE.out HV.out HL.out _).mono ?_
  rintro e' w2 ⟨rfl, hb2⟩
  have E2 := Lib.hid ((E1.out.lay _ _).below hb2)
  clear hb2 c0 c1 c2 a0 a1 a2 p0 p1
  have p0 := E2.out.hd.lt
  have x0 := E2.out.hd.cell 0
  have x1 := E2.out.hd.cell 1
  have x2 := E2.out.hd.cell 2
  have p1 := E2.out.tl.hd.lt
  have c0 := E2.out.tl.hd.cell 0
  have c1 := E2.out.tl.hd.cell 1
  have c2 := E2.out.tl.hd.cell 2
  have p2 := E2.out.tl.tl.hd.lt
  have a0 := E2.out.tl.tl.hd.cell 0
  have a1 := E2.out.tl.tl.hd.cell 1
  have a2 := E2.out.tl.tl.hd.cell 2
  simp at x0 x1 x2 c0 c1 c2 a0 a1 a2 p0 p1 p2
  go_wp2_with fail
  refine (join_ok _ _ _ _ _ _ HE.out HF.out hj _).mono ?_
  rintro e' w3 ⟨rfl, hb3⟩
  have E3 := Lib.hid ((E2.out.lay _ _).below hb3)
  clear hb3 x0 x1 x2 c0 c1 c2 a0 a1 a2 p0 p1 p2
  go_wp2_with fail
  generalize hW : (w3.alloc (.cells #[.int .i64 (n + n'), .int .i64 (s + s'), .int .i64 (q + q')] 23)) = W2
  have e3 := E3.out.lay #[.int .i64 (n + n'), .int .i64 (s + s'), .int .i64 (q + q')] 23
  rw [hW] at e3
  have E4 := Lib.hid e3
  clear e3 hW
  have HS := Lib.hid (show ∀ w', Below W2.heap.size W2 w' → (Below W2.heap.size W2 w' ∧ w'.cell? ⟨w.heap.size, 0, none⟩ = some (.int .i64 n) ∧ w'.cell? ⟨w.heap.size, 1, none⟩ = some (.int .i64 s) ∧ w'.cell? ⟨w.heap.size, 2, none⟩ = some (.int .i64 q))
    from fun w' e8 => ⟨e8, (E4.out.below e8).tl.tl.tl.tl.hd.cell 0, (E4.out.below e8).tl.tl.tl.tl.hd.cell 1, (E4.out.below e8).tl.tl.tl.tl.hd.cell 2⟩)
  have tok1 : True := trivial
  go_region_held3 (fun w' => Below W2.heap.size W2 w' ∧ w'.cell? ⟨w.heap.size, 0, none⟩ = some (.int .i64 n) ∧ w'.cell? ⟨w.heap.size, 1, none⟩ = some (.int .i64 s) ∧ w'.cell? ⟨w.heap.size, 2, none⟩ = some (.int .i64 q))
    ((refine HS.out _ ?_; first | exact (Below.refl _ _).drew | exact And.left (by assumption) | exact Below.trans (And.left (by assumption)) (Below.mono hb5 (Below.size (And.left (by assumption)))) | exact Below.trans (And.left (by assumption)) (Below.mono hb4 (Below.size (And.left (by assumption))))))
    (first
      | (go_at_call 7; have _t := tok1; refine (rsums_is _ _ _ _ HE.out _).mono ?_; rintro e' w4 ⟨rfl, hb4⟩; clear tok1 _t)
      | (go_at_call 7; refine (rsums_is _ _ _ _ HE.out _).mono ?_; rintro e' w5 ⟨rfl, hb5⟩))
  rename_i hheld
  have E5 := Lib.hid (E4.out.below hheld.1)
  clear hheld
  have p0 := E5.out.hd.lt
  have z0 := E5.out.hd.cell 0
  have z1 := E5.out.hd.cell 1
  have z2 := E5.out.hd.cell 2
  have p1 := E5.out.tl.hd.lt
  have y0 := E5.out.tl.hd.cell 0
  have y1 := E5.out.tl.hd.cell 1
  have y2 := E5.out.tl.hd.cell 2
  have p2 := E5.out.tl.tl.hd.lt
  have x0 := E5.out.tl.tl.hd.cell 0
  have x1 := E5.out.tl.tl.hd.cell 1
  have x2 := E5.out.tl.tl.hd.cell 2
  have p3 := E5.out.tl.tl.tl.hd.lt
  have c0 := E5.out.tl.tl.tl.hd.cell 0
  have c1 := E5.out.tl.tl.tl.hd.cell 1
  have c2 := E5.out.tl.tl.tl.hd.cell 2
  have p4 := E5.out.tl.tl.tl.tl.hd.lt
  have a0 := E5.out.tl.tl.tl.tl.hd.cell 0
  have a1 := E5.out.tl.tl.tl.tl.hd.cell 1
  have a2 := E5.out.tl.tl.tl.tl.hd.cell 2
  simp at z0 z1 z2 y0 y1 y2 x0 x1 x2 c0 c1 c2 a0 a1 a2 p0 p1 p2 p3 p4
  go_wp2_with (go_at_call 8; refine (rval_is _ _ HV.out _).mono ?_; rintro e' w' ⟨rfl, rfl⟩)
  refine (rsums_is _ _ _ _ HF.out _).mono ?_
  rintro e' w6 ⟨rfl, hb6⟩
  have E6 := Lib.hid (E5.out.below hb6)
  clear hb6 z0 z1 z2 y0 y1 y2 x0 x1 x2 c0 c1 c2 a0 a1 a2 p0 p1 p2 p3 p4
  have p0 := E6.out.hd.lt
  have z0 := E6.out.hd.cell 0
  have z1 := E6.out.hd.cell 1
  have z2 := E6.out.hd.cell 2
  have p1 := E6.out.tl.hd.lt
  have y0 := E6.out.tl.hd.cell 0
  have y1 := E6.out.tl.hd.cell 1
  have y2 := E6.out.tl.hd.cell 2
  have p2 := E6.out.tl.tl.hd.lt
  have x0 := E6.out.tl.tl.hd.cell 0
  have x1 := E6.out.tl.tl.hd.cell 1
  have x2 := E6.out.tl.tl.hd.cell 2
  have p3 := E6.out.tl.tl.tl.hd.lt
  have c0 := E6.out.tl.tl.tl.hd.cell 0
  have c1 := E6.out.tl.tl.tl.hd.cell 1
  have c2 := E6.out.tl.tl.tl.hd.cell 2
  have p4 := E6.out.tl.tl.tl.tl.hd.lt
  have a0 := E6.out.tl.tl.tl.tl.hd.cell 0
  have a1 := E6.out.tl.tl.tl.tl.hd.cell 1
  have a2 := E6.out.tl.tl.tl.tl.hd.cell 2
  simp at z0 z1 z2 y0 y1 y2 x0 x1 x2 c0 c1 c2 a0 a1 a2 p0 p1 p2 p3 p4
  go_wp2_with fail
  refine (rsums_is _ _ _ _ HL.out _).mono ?_
  rintro e' w7 ⟨rfl, hb7⟩
  have E7 := Lib.hid ((E6.out.lay _ _).below hb7)
  clear hb7 z0 z1 z2 y0 y1 y2 x0 x1 x2 c0 c1 c2 a0 a1 a2 p0 p1 p2 p3 p4
  have p0 := E7.out.hd.lt
  have l0 := E7.out.hd.cell 0
  have l1 := E7.out.hd.cell 1
  have l2 := E7.out.hd.cell 2
  have p1 := E7.out.tl.hd.lt
  have z0 := E7.out.tl.hd.cell 0
  have z1 := E7.out.tl.hd.cell 1
  have z2 := E7.out.tl.hd.cell 2
  have p2 := E7.out.tl.tl.hd.lt
  have y0 := E7.out.tl.tl.hd.cell 0
  have y1 := E7.out.tl.tl.hd.cell 1
  have y2 := E7.out.tl.tl.hd.cell 2
  have p3 := E7.out.tl.tl.tl.hd.lt
  have x0 := E7.out.tl.tl.tl.hd.cell 0
  have x1 := E7.out.tl.tl.tl.hd.cell 1
  have x2 := E7.out.tl.tl.tl.hd.cell 2
  have p4 := E7.out.tl.tl.tl.tl.hd.lt
  have c0 := E7.out.tl.tl.tl.tl.hd.cell 0
  have c1 := E7.out.tl.tl.tl.tl.hd.cell 1
  have c2 := E7.out.tl.tl.tl.tl.hd.cell 2
  have p5 := E7.out.tl.tl.tl.tl.tl.hd.lt
  have a0 := E7.out.tl.tl.tl.tl.tl.hd.cell 0
  have a1 := E7.out.tl.tl.tl.tl.tl.hd.cell 1
  have a2 := E7.out.tl.tl.tl.tl.tl.hd.cell 2
  simp at l0 l1 l2 z0 z1 z2 y0 y1 y2 x0 x1 x2 c0 c1 c2 a0 a1 a2 p0 p1 p2 p3 p4 p5
  go_wp2
  go_ret
  exact ⟨rfl, E7.out.bel⟩

theorem statAdds_walk (n s q n' s' q' v : Int)
    (_b : -9223372036854775808 ≤ n ∧ n ≤ 9223372036854775807 ∧ -9223372036854775808 ≤ s ∧ s ≤ 9223372036854775807 ∧ -9223372036854775808 ≤ q ∧ q ≤ 9223372036854775807)
    (_c : -9223372036854775808 ≤ n' ∧ n' ≤ 9223372036854775807 ∧ -9223372036854775808 ≤ s' ∧ s' ≤ 9223372036854775807 ∧ -9223372036854775808 ≤ q' ∧ q' ≤ 9223372036854775807)
    (_l : -9223372036854775808 ≤ v) (_h : v ≤ 9223372036854775807) (w : World) :
    Calls Try.prog 3 #[.agg #[.int .i64 n, .int .i64 s, .int .i64 q], .agg #[.int .i64 n', .int .i64 s', .int .i64 q'], .int .i64 v] w fun e' w' => e' = .returned (.bool true) ∧ Below w.heap.size w w' := by
  by_cases he : sumsE n s q = 0
  · have hu := Int.lt_or_le n 64
    cases hv : wi v 0 16777216
    · by_cases hf : sumsE n' s' q' = 0
      · by_cases hj : n + n' ≤ 64
        · exact sa_val_k n s q n' s' q' v he hv hf hj w
        · exact sa_val_l n s q n' s' q' v he hv hf (by omega) w
      · exact sa_val_f n s q n' s' q' v he hv _ rfl hf w
    · by_cases hl : sumsE (n - 1) (s - v) (q - v * v) = 0
      · by_cases hf : sumsE n' s' q' = 0
        · by_cases hj : n + n' ≤ 64
          · rcases hu with hu | hu
            · exact sa_koy n s q n' s' q' v he hv hf hj hu hl w
            · exact sa_kuy n s q n' s' q' v he hv hf hj hu hl w
          · rcases hu with hu | hu
            · exact sa_loy n s q n' s' q' v he hv hf (by omega) hu hl w
            · exact sa_luy n s q n' s' q' v he hv hf (by omega) hu hl w
        · rcases hu with hu | hu
          · exact sa_foy n s q n' s' q' v he hv _ rfl hf hu hl w
          · exact sa_fuy n s q n' s' q' v he hv _ rfl hf hu hl w
      · by_cases hf : sumsE n' s' q' = 0
        · by_cases hj : n + n' ≤ 64
          · rcases hu with hu | hu
            · exact sa_kon n s q n' s' q' v he hv hf hj hu _ rfl hl w
            · exact sa_kun n s q n' s' q' v he hv hf hj hu _ rfl hl w
          · rcases hu with hu | hu
            · exact sa_lon n s q n' s' q' v he hv hf (by omega) hu _ rfl hl w
            · exact sa_lun n s q n' s' q' v he hv hf (by omega) hu _ rfl hl w
        · rcases hu with hu | hu
          · exact sa_fon n s q n' s' q' v he hv _ rfl hf hu _ rfl hl w
          · exact sa_fun n s q n' s' q' v he hv _ rfl hf hu _ rfl hl w
  · exact sa_err n s q n' s' q' v _ rfl he w
end Go.Proofs.Ytljnmginngodkae
