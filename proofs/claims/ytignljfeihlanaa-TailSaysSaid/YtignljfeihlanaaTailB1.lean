/- tail.Chebyshev at arguments that are good, walked. -/
import Derived.Test.YtignljfeihlanaaTailB0
import Derived.Deep.DeepCutAuto
namespace Go.Proofs.Ytignljfeihlanaa
open Go.RowKit
set_option linter.unusedSimpArgs false
set_option linter.unusedVariables false
set_option maxHeartbeats 8000000 in
set_option maxRecDepth 100000 in
theorem cheb_ok (n d sp : Nat) (s q : Int) (he : sumsE n s q = 0) (hsp : (n : Int) * q - s * s = sp) (hn1 : 1 ≤ n) (ht0 : 1 ≤ d) (ht1 : d ≤ 1073741824) (w : World) :
    Calls Try.prog 6 #[.agg #[.int .i64 n, .int .i64 s, .int .i64 q], .int .i64 d] w fun e' w' => e' = .returned (.tuple #[.int .i64 (min n (sp / (n * (d * d))) : Nat), .int .i64 0]) ∧ Below w.heap.size w w' := by
  obtain ⟨hn64, hs0, hs1, hq0, hq1⟩ := sums_nat he
  have hn64' : n ≤ 64 := by omega
  have hspb : sp ≤ 1152921504606846976 := by omega
  have hdd : d * d ≤ 1152921504606846976 := Nat.mul_le_mul ht1 ht1
  have hdd1 : 1 ≤ d * d := Nat.mul_le_mul ht0 ht0
  have hX : n * (d * d) ≤ 64 * 1152921504606846976 := Nat.mul_le_mul hn64' hdd
  have hX1 : 1 ≤ n * (d * d) := Nat.mul_le_mul hn1 hdd1
  have HMU := Lib.hid (fun w' => mul_w (d : Int) (d : Int) d d rfl rfl (by omega) (by omega) w')
  have HTI := Lib.hid (show ∀ w', Calls Try.prog 17 #[.agg #[.int .u64 0, .int .u64 n], .agg #[.int .u64 (hiN (d * d)), .int .u64 (loN (d * d))]] w' fun e w'' => e = .returned (.tuple #[.agg #[.int .u64 (hiN (n * (d * d))), .int .u64 (loN (n * (d * d)))], .int .i64 0]) ∧ Below w'.heap.size w' w'' from fun w' => by
    have h := times_any n (d * d) (by omega) (by omega) w'
    rw [show hiN n = 0 by unfold hiN; omega, show loN n = n by unfold loN; omega, show fitN (n * (d * d)) = n * (d * d) from if_pos (by omega), show fitE (n * (d * d)) = 0 from if_pos (by omega)] at h
    exact h)
  have HDI := Lib.hid (show ∀ w', Calls Try.prog 19 #[.agg #[.int .u64 0, .int .u64 sp], .agg #[.int .u64 (hiN (n * (d * d))), .int .u64 (loN (n * (d * d)))]] w' (DivIs (sp / (n * (d * d))) (sp % (n * (d * d))) 0 w') from fun w' => by
    have h := div_any sp (n * (d * d)) (by omega) (by omega) (by omega) w'
    rw [show hiN sp = 0 by unfold hiN; omega, show loN sp = sp by unfold loN; omega] at h
    exact h)
  have hQ : sp / (n * (d * d)) ≤ sp := Nat.div_le_self _ _
  generalize n * (d * d) = X at *
  generalize hQX : sp / X = Q at *
  have HQX := Lib.hid hQX
  clear hQX
  have hQl : loN Q = (Q : Int) := by unfold loN; omega
  have HE := Lib.hid he
  have HSPR := Lib.hid (show ∀ w, Calls Try.prog 16 #[.agg #[.int .i64 n, .int .i64 s, .int .i64 q]] w fun e' w' => e' = .returned (.tuple #[.int .i64 (sp : Int), .int .i64 0]) ∧ Below w.heap.size w w' from fun w => by
    have := spread_ok n s q he w; rw [hsp] at this; exact this)
  have E := Lib.hid ((Env.start w).lay #[.int .i64 n, .int .i64 s, .int .i64 q] 24)
  clear he hsp
  go_enter Try.func6, Try.ntmps6
  go_wp2_with fail
  refine (check_is _ _ _ _ HE.out _).mono ?_
  rintro e' w1 ⟨rfl, hb1⟩
  have E1 := Lib.hid (E.out.below hb1)
  clear hb1
  have a0 := E1.out.hd.cell 0
  have a1 := E1.out.hd.cell 1
  have a2 := E1.out.hd.cell 2
  have p0 := E1.out.hd.lt
  simp at a0 a1 a2 p0
  go_wp2_with fail
  refine (HSPR.out _).mono ?_
  rintro e' w2 ⟨rfl, hb2⟩
  have E2 := Lib.hid (E1.out.below hb2)
  clear hb2 E1 E a0 a1 a2 p0 HSPR
  go_upto_region 9 with fail
  have HS := Lib.hid (show ∀ w', Below w2.heap.size w2 w' → (Below w2.heap.size w2 w' ∧ w'.cell? ⟨w.heap.size, 0, none⟩ = some (.int .i64 n) ∧ w'.cell? ⟨w.heap.size, 1, none⟩ = some (.int .i64 s) ∧ w'.cell? ⟨w.heap.size, 2, none⟩ = some (.int .i64 q))
    from fun w' h => ⟨h, (E2.out.below h).hd.cell 0, (E2.out.below h).hd.cell 1, (E2.out.below h).hd.cell 2⟩)
  have hcd : IntKind.u64.wrap (d : Int) = (d : Int) := by rw [IntKind.wrap_u64]; omega
  have hcn : IntKind.u64.wrap (n : Int) = (n : Int) := by rw [IntKind.wrap_u64]; omega
  go_cut [9, 10] (fun s9 s10 wx => s10 = .int .i64 0 ∧ Got w2 X s9 wx)
  case first =>
    go_region_held3 (fun w' => Below w2.heap.size w2 w' ∧ w'.cell? ⟨w.heap.size, 0, none⟩ = some (.int .i64 n) ∧ w'.cell? ⟨w.heap.size, 1, none⟩ = some (.int .i64 s) ∧ w'.cell? ⟨w.heap.size, 2, none⟩ = some (.int .i64 q))
      ((refine HS.out _ ?_; repeat (first | (with_reducible exact hL5) | (with_reducible exact hL4) | (with_reducible exact Below.refl _ _) | (with_reducible refine Below.al' ?_) | (with_reducible refine Below.drew ?_) | ((with_reducible refine Below.setCell ?_ ?_ _); rotate_left; · (first | omega | (simp; done) | (simp; omega))))))
      (first
        | (go_at_call 18; (with_reducible refine (HMU.out _).mono ?_); rintro e' w4 ⟨rfl, hb4⟩; have hz4 := hb4.size; (try simp at hz4); obtain ⟨hc4, hf4⟩ := bcell hb4; (try simp only [World.size_alloc, World.heap_drew] at hc4); (try simp only [World.size_alloc, World.heap_drew] at hf4); (try (have hy4 := Nat.lt_of_succ_le hz4)); (try (have hx4 := Nat.lt_of_succ_lt hy4)); (try (have hu4 := Nat.lt_succ_of_lt hy4)); (try (have hu4b := Nat.lt_succ_of_lt hx4)); (try (have hu4c := Nat.lt_succ_of_lt hu4)); have hL4 : Below w2.heap.size w2 w4 := Below.thru' (by repeat (first | (with_reducible exact Below.refl _ _) | (with_reducible refine Below.al' ?_) | (with_reducible refine Below.drew ?_))) hb4)
        | (go_at_call 17; (with_reducible refine (HTI.out _).mono ?_); rintro e' w5 ⟨rfl, hb5⟩; have hz5 := hb5.size; (try simp at hz5); obtain ⟨hc5, hf5⟩ := bcell hb5; (try simp only [World.size_alloc, World.heap_drew] at hc5); (try simp only [World.size_alloc, World.heap_drew] at hf5); (try (have hy5 := Nat.lt_of_succ_le hz5)); (try (have hx5 := Nat.lt_of_succ_lt hy5)); (try (have hv1 := Nat.lt_of_lt_of_le hy4 hz5)); (try (have hv2 := Nat.lt_of_lt_of_le hx4 hz5)); (try (have hv3 := Nat.lt_trans hy4 hy5)); (try (have hv4 := Nat.lt_trans hx4 hy5)); (try (have hv5 := Nat.lt_trans hy4 hx5)); (try (have hv6 := Nat.lt_trans hx4 hx5)); have hL5 : Below w2.heap.size w2 w5 := Below.thru' (by repeat (first | (with_reducible exact hL4) | (with_reducible exact Below.refl _ _) | (with_reducible refine Below.al' ?_) | (with_reducible refine Below.drew ?_))) hb5))
    all_goals
      rename_i hheld
      have hbel := hheld.1
      clear hheld HS
      go_wp2_with fail
      go_meet
      refine ⟨rfl, ?_⟩
      first
        | with_reducible exact got_new hbel
        | ((with_reducible refine got_set hbel ?_); first | exact ⟨_, _, (Blk.new _ _ _).below hb5 (by (first | omega | (simp; done) | (simp; omega)))⟩ | exact ⟨_, _, ((Blk.new _ _ _).drew.below hb4 (by (first | omega | (simp; done) | (simp; omega)))).below hb5 (by (first | omega | (simp; done) | (simp; omega)))⟩ | exact ⟨_, _, ((Blk.new _ _ _).below hb4 (by (first | omega | (simp; done) | (simp; omega)))).below hb5 (by (first | omega | (simp; done) | (simp; omega)))⟩)
  case rest =>
    obtain ⟨rfl, g, rfl, hbel, hgb⟩ := hcut
    have E3 := Lib.hid (E2.out.below hbel)
    have d0 := hgb.cell 0
    have d1 := hgb.cell 1
    have x0 := E3.out.hd.cell 0
    simp at d0 d1 x0
    clear hbel hgb HS HMU HTI E2
    go_wp2_with fail
    refine (HDI.out _).mono ?_
    rintro e' w6 ⟨rfl, hb6⟩
    have E4 := Lib.hid (E3.out.below hb6)
    clear hb6 E3 d0 d1 x0
    have x0 := E4.out.hd.cell 0
    have p0 := E4.out.hd.lt
    simp at x0 p0
    rw [hQl]
    go_wp2
    refine bodyPost_ret (v := .tuple #[.int .i64 (min n Q : Nat), .int .i64 0]) (by simp [results, Try.results6, go_sem]; omega) rfl ⟨rfl, Below.al' (Below.al' E4.out.bel)⟩

end Go.Proofs.Ytignljfeihlanaa
