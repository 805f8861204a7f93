/- tail.Cantelli at arguments that are good, walked. -/
import Derived.Test.YtignljfeihlanaaTailB0
import Derived.Deep.DeepCutAuto
namespace Go.Proofs.Ytignljfeihlanaa
open Go.RowKit
set_option linter.unusedSimpArgs false
set_option linter.unusedVariables false
set_option maxHeartbeats 1000000 in
theorem cant_low (n s q t : Int) (he : sumsE n s q = 0) (ht0 : 0 ≤ t) (ht1 : t ≤ 1073741824) (hd : n * t - s ≤ 0) (w : World) :
    Calls Try.prog 7 #[.agg #[.int .i64 n, .int .i64 s, .int .i64 q], .int .i64 t] w fun e' w' => e' = .returned (.tuple #[.int .i64 n, .int .i64 0]) ∧ Below w.heap.size w w' := by
  obtain ⟨hn64, hs0, hs1, hq0, hq1⟩ := sums_nat he
  have hn0 : 0 ≤ n := (sumsE_zero he).1.1
  have d0 : 0 ≤ n * t := Int.mul_nonneg hn0 ht0
  have HE := Lib.hid he
  have E := Lib.hid ((Env.start w).lay #[.int .i64 n, .int .i64 s, .int .i64 q] 24)
  clear he hq0 hq1
  go_enter Try.func7, Try.ntmps7
  go_wp2_with fail
  refine (check_is _ _ _ _ HE.out _).mono ?_
  rintro e' w1 ⟨rfl, hb1⟩
  have E1 := Lib.hid (E.out.below hb1)
  clear hb1
  have a0 := E1.out.hd.cell 0
  have a1 := E1.out.hd.cell 1
  have p0 := E1.out.hd.lt
  simp at a0 a1 p0
  go_wp2
  all_goals refine bodyPost_ret (v := .tuple #[.int .i64 n, .int .i64 0]) (by simp [results, Try.results7, go_sem] <;> omega) rfl ⟨rfl, E1.out.bel⟩

set_option maxHeartbeats 16000000 in
set_option maxRecDepth 100000 in
theorem cant_ok (n d sp : Nat) (s q t : Int) (he : sumsE n s q = 0) (hsp : (n : Int) * q - s * s = sp) (ht0 : 0 ≤ t) (ht1 : t ≤ 1073741824) (hd : (n : Int) * t - s = d) (hd1 : 1 ≤ d) (w : World) :
    Calls Try.prog 7 #[.agg #[.int .i64 n, .int .i64 s, .int .i64 q], .int .i64 t] w fun e' w' => e' = .returned (.tuple #[.int .i64 (n * sp / (sp + d * d) : Nat), .int .i64 0]) ∧ Below w.heap.size w w' := by
  obtain ⟨hn64, hs0, hs1, hq0, hq1⟩ := sums_nat he
  have hn64' : n ≤ 64 := by omega
  have hspb : sp ≤ 1152921504606846976 := by omega
  have hnt : (n : Int) * t ≤ 64 * 1073741824 := Int.mul_le_mul hn64 ht1 ht0 (by omega)
  have hnt0 : 0 ≤ (n : Int) * t := Int.mul_nonneg (by omega) ht0
  have hd2 : d ≤ 68719476736 := by omega
  have hdd : d * d ≤ 4722366482869645213696 := Nat.mul_le_mul hd2 hd2
  have hdd1 : 1 ≤ d * d := Nat.mul_le_mul hd1 hd1
  have hns : n * sp ≤ 64 * 1152921504606846976 := Nat.mul_le_mul hn64' hspb
  have hQ : n * sp / (sp + d * d) ≤ n := by
    rw [Nat.div_le_iff_le_mul_add_pred (by omega)]
    have : n * sp ≤ n * (sp + d * d) := Nat.mul_le_mul_left _ (by omega)
    rw [Nat.mul_comm (sp + d * d) n]
    omega
  have HMU := Lib.hid (fun w' => mul_w (d : Int) (d : Int) d d rfl rfl (by omega) (by omega) w')
  have HM1 := Lib.hid (fun w' => mul_w (n : Int) (sp : Int) n sp rfl rfl (by omega) (by omega) w')
  have HAD := Lib.hid (fun w' => wide_add_ok 0 (sp : Int) _ _ sp (d * d) ⟨by unfold hiN; omega, by unfold loN; omega, by omega⟩ (WN.mk' (d * d) (by omega)) (by omega) w')
  have HDI := Lib.hid (show ∀ w', Calls Try.prog 19 #[.agg #[.int .u64 (hiN (n * sp)), .int .u64 (loN (n * sp))], .agg #[.int .u64 (hiN (sp + d * d)), .int .u64 (loN (sp + d * d))]] w' (DivIs (n * sp / (sp + d * d)) (n * sp % (sp + d * d)) 0 w') from fun w' => div_any _ _ (by omega) (by omega) (by omega) w')
  generalize sp + d * d = X at *
  generalize n * sp = Y at *
  generalize hQX : Y / X = Q at *
  generalize Y % X = R at *
  have HQX := Lib.hid hQX
  clear hQX hdd hdd1 hns
  have HQL := Lib.hid (show loN Q = (Q : Int) by unfold loN; omega)
  have HD := Lib.hid hd
  have hdp : 0 < (n : Int) * t - s := by omega
  clear hd
  have HE := Lib.hid he
  have HSPR := Lib.hid (show ∀ w, Calls Try.prog 16 #[.agg #[.int .i64 n, .int .i64 s, .int .i64 q]] w fun e' w' => e' = .returned (.tuple #[.int .i64 (sp : Int), .int .i64 0]) ∧ Below w.heap.size w w' from fun w => by
    have := spread_ok n s q he w; rw [hsp] at this; exact this)
  have E := Lib.hid ((Env.start w).lay #[.int .i64 n, .int .i64 s, .int .i64 q] 24)
  clear he hsp
  go_enter Try.func7, Try.ntmps7
  go_wp2_with fail
  refine (check_is _ _ _ _ HE.out _).mono ?_
  rintro e' w1 ⟨rfl, hb1⟩
  have E1 := Lib.hid (E.out.below hb1)
  clear hb1
  have a0 := E1.out.hd.cell 0
  have a1 := E1.out.hd.cell 1
  have a2 := E1.out.hd.cell 2
  have p0 := E1.out.hd.lt
  simp at a0 a1 a2 p0
  go_wp2_with fail
  refine (HSPR.out _).mono ?_
  rintro e' w2 ⟨rfl, hb2⟩
  have E2 := Lib.hid (E1.out.below hb2)
  clear hb2 E1 E a0 a1 a2 p0 HSPR
  go_wp2_with fail
  rw [HD.out]
  refine (HMU.out _).mono ?_
  rintro e' w3 ⟨rfl, hb3⟩
  have E3 := Lib.hid (E2.out.below hb3)
  clear hb3 E2 HMU
  go_wp2_with fail
  refine (HAD.out _).mono ?_
  rintro e' w9 ⟨rfl, hb4⟩
  have E4 := Lib.hid ((E3.out.below hb4).lay #[.int .u64 (hiN X), .int .u64 (loN X)] 38)
  have z0 := (E3.out.below hb4).hd.lt
  clear hb4 E3 HAD
  go_upto_region 11 with fail
  generalize hW0 : w9.alloc _ = W0 at *
  have z1 : w9.heap.size < W0.heap.size := by rw [← hW0]; simp
  have z2 : w.heap.size < W0.heap.size := by rw [← hW0]; simp; omega
  clear hW0
  have HS := Lib.hid (show ∀ w', Below W0.heap.size W0 w' → (Below W0.heap.size W0 w' ∧ w'.cell? ⟨w.heap.size, 0, none⟩ = some (.int .i64 n) ∧ w'.cell? ⟨w.heap.size, 1, none⟩ = some (.int .i64 s) ∧ w'.cell? ⟨w.heap.size, 2, none⟩ = some (.int .i64 q) ∧ w'.cell? ⟨w9.heap.size, 0, none⟩ = some (.int .u64 (hiN X)) ∧ w'.cell? ⟨w9.heap.size, 1, none⟩ = some (.int .u64 (loN X)))
    from fun w' h => ⟨h, (E4.out.below h).tl.hd.cell 0, (E4.out.below h).tl.hd.cell 1, (E4.out.below h).tl.hd.cell 2, (E4.out.below h).hd.cell 0, (E4.out.below h).hd.cell 1⟩)
  have hcd : IntKind.u64.wrap (sp : Int) = (sp : Int) := by rw [IntKind.wrap_u64]; omega
  have hcn : IntKind.u64.wrap (n : Int) = (n : Int) := by rw [IntKind.wrap_u64]; omega
  go_cut [12, 13, 14] (fun s12 s13 s14 wx => s14 = .int .i64 0 ∧ Halves W0 Q R s12 s13 wx)
  case first =>
    go_region_held3 (fun w' => Below W0.heap.size W0 w' ∧ w'.cell? ⟨w.heap.size, 0, none⟩ = some (.int .i64 n) ∧ w'.cell? ⟨w.heap.size, 1, none⟩ = some (.int .i64 s) ∧ w'.cell? ⟨w.heap.size, 2, none⟩ = some (.int .i64 q) ∧ w'.cell? ⟨w9.heap.size, 0, none⟩ = some (.int .u64 (hiN X)) ∧ w'.cell? ⟨w9.heap.size, 1, none⟩ = some (.int .u64 (loN X)))
      ((refine HS.out _ ?_; first | exact (Below.refl _ _).drew | exact And.left (by assumption) | exact Below.trans (And.left (by assumption)) (Below.mono hb4 (Below.size (And.left (by assumption)))) | exact Below.trans (And.left (by assumption)) (Below.mono hb5 (Below.size (And.left (by assumption)))) | exact Below.alloc (And.left (by assumption)) (Below.size (And.left (by assumption))) _ | (refine Below.setCell (Below.setCell (And.left (by assumption)) ?_ _) ?_ _ <;> (first | omega | (simp; done) | (simp; omega))) | (refine below_under (And.left (by assumption)) ?_ ?_ ?_ _ _ <;> (first | omega | (simp; done) | (simp; omega))) | (refine below_realloc (And.left (by assumption)) ?_; (first | omega | (simp; done) | (simp; omega))) | (refine below_realloc2 (And.left (by assumption)) ?_; (first | omega | (simp; done) | (simp; omega)))))
      (first
        | (go_at_call 18; (with_reducible refine (HM1.out _).mono ?_); rintro e' w4 ⟨rfl, hb4⟩; have hz4 := hb4.size; obtain ⟨hc4, hf4⟩ := bcell hb4; (try simp at hz4); (try simp only [World.size_alloc, World.heap_drew] at hc4); (try simp only [World.size_alloc, World.heap_drew] at hf4); (try (have hy4 := Nat.lt_of_succ_le hz4)); (try (have hx4 := Nat.lt_of_succ_lt hy4)); (try (have hu4 := Nat.lt_succ_of_lt hy4)); (try (have hu4b := Nat.lt_succ_of_lt hx4)); (try (have hu4c := Nat.lt_succ_of_lt hu4)))
        | (go_at_call 19; (with_reducible refine (HDI.out _).mono ?_); rintro e' w5 ⟨rfl, hb5⟩; have hz5 := hb5.size; obtain ⟨hc5, hf5⟩ := bcell hb5; (try simp at hz5); (try simp only [World.size_alloc, World.heap_drew] at hc5); (try simp only [World.size_alloc, World.heap_drew] at hf5); (try (have hy5 := Nat.lt_of_succ_le hz5)); (try (have hx5 := Nat.lt_of_succ_lt hy5)); (try (have hv1 := Nat.lt_of_lt_of_le hy4 hz5)); (try (have hv2 := Nat.lt_of_lt_of_le hx4 hz5)); (try (have hv3 := Nat.lt_trans hy4 hy5)); (try (have hv4 := Nat.lt_trans hx4 hy5)); (try (have hv5 := Nat.lt_trans hy4 hx5)); (try (have hv6 := Nat.lt_trans hx4 hx5))))
    all_goals
      rename_i hheld
      have hbel := hheld.1
      clear hheld HS HM1 HDI
      go_wp2_with fail
      go_meet
      refine ⟨rfl, ?_⟩
      first
        | with_reducible exact halves_A1 hbel
        | with_reducible exact halves_A2 hbel
        | ((with_reducible refine halves_B1 hbel ?_); first | exact ⟨_, _, _, (Blk.new _ _ _).below hb5 (by (first | omega | (simp; done) | (simp; omega)))⟩ | exact ⟨_, _, _, ((Blk.new _ _ _).alloc _).below hb5 (by (first | omega | (simp; done) | (simp; omega)))⟩ | exact ⟨_, _, _, (Blk.new1 _ _ _ _).below hb5 (by (first | omega | (simp; done) | (simp; omega)))⟩ | exact ⟨_, _, _, ((Blk.new _ _ _).drew.below hb4 (by (first | omega | (simp; done) | (simp; omega)))).below hb5 (by (first | omega | (simp; done) | (simp; omega)))⟩ | exact ⟨_, _, _, (((Blk.new _ _ _).drew.below hb4 (by (first | omega | (simp; done) | (simp; omega)))).alloc _).below hb5 (by (first | omega | (simp; done) | (simp; omega)))⟩ | exact ⟨_, _, _, (((Blk.new _ _ _).alloc _).drew.below hb4 (by (first | omega | (simp; done) | (simp; omega)))).below hb5 (by (first | omega | (simp; done) | (simp; omega)))⟩ | exact ⟨_, _, _, ((Blk.new1 _ _ _ _).drew.below hb4 (by (first | omega | (simp; done) | (simp; omega)))).below hb5 (by (first | omega | (simp; done) | (simp; omega)))⟩)
        | ((with_reducible refine halves_B2 hbel ?_); first | exact ⟨_, _, _, (Blk.new _ _ _).below hb5 (by (first | omega | (simp; done) | (simp; omega)))⟩ | exact ⟨_, _, _, ((Blk.new _ _ _).alloc _).below hb5 (by (first | omega | (simp; done) | (simp; omega)))⟩ | exact ⟨_, _, _, (Blk.new1 _ _ _ _).below hb5 (by (first | omega | (simp; done) | (simp; omega)))⟩ | exact ⟨_, _, _, ((Blk.new _ _ _).drew.below hb4 (by (first | omega | (simp; done) | (simp; omega)))).below hb5 (by (first | omega | (simp; done) | (simp; omega)))⟩ | exact ⟨_, _, _, (((Blk.new _ _ _).drew.below hb4 (by (first | omega | (simp; done) | (simp; omega)))).alloc _).below hb5 (by (first | omega | (simp; done) | (simp; omega)))⟩ | exact ⟨_, _, _, (((Blk.new _ _ _).alloc _).drew.below hb4 (by (first | omega | (simp; done) | (simp; omega)))).below hb5 (by (first | omega | (simp; done) | (simp; omega)))⟩ | exact ⟨_, _, _, ((Blk.new1 _ _ _ _).drew.below hb4 (by (first | omega | (simp; done) | (simp; omega)))).below hb5 (by (first | omega | (simp; done) | (simp; omega)))⟩)
        | ((with_reducible refine halves_C hbel ?_ ?_ ?_); · first | exact ⟨_, _, _, (Blk.new _ _ _).below hb5 (by (first | omega | (simp; done) | (simp; omega)))⟩ | exact ⟨_, _, _, ((Blk.new _ _ _).alloc _).below hb5 (by (first | omega | (simp; done) | (simp; omega)))⟩ | exact ⟨_, _, _, (Blk.new1 _ _ _ _).below hb5 (by (first | omega | (simp; done) | (simp; omega)))⟩ | exact ⟨_, _, _, ((Blk.new _ _ _).drew.below hb4 (by (first | omega | (simp; done) | (simp; omega)))).below hb5 (by (first | omega | (simp; done) | (simp; omega)))⟩ | exact ⟨_, _, _, (((Blk.new _ _ _).drew.below hb4 (by (first | omega | (simp; done) | (simp; omega)))).alloc _).below hb5 (by (first | omega | (simp; done) | (simp; omega)))⟩ | exact ⟨_, _, _, (((Blk.new _ _ _).alloc _).drew.below hb4 (by (first | omega | (simp; done) | (simp; omega)))).below hb5 (by (first | omega | (simp; done) | (simp; omega)))⟩ | exact ⟨_, _, _, ((Blk.new1 _ _ _ _).drew.below hb4 (by (first | omega | (simp; done) | (simp; omega)))).below hb5 (by (first | omega | (simp; done) | (simp; omega)))⟩
           · first | exact ⟨_, _, _, (Blk.new _ _ _).below hb5 (by (first | omega | (simp; done) | (simp; omega)))⟩ | exact ⟨_, _, _, ((Blk.new _ _ _).alloc _).below hb5 (by (first | omega | (simp; done) | (simp; omega)))⟩ | exact ⟨_, _, _, (Blk.new1 _ _ _ _).below hb5 (by (first | omega | (simp; done) | (simp; omega)))⟩ | exact ⟨_, _, _, ((Blk.new _ _ _).drew.below hb4 (by (first | omega | (simp; done) | (simp; omega)))).below hb5 (by (first | omega | (simp; done) | (simp; omega)))⟩ | exact ⟨_, _, _, (((Blk.new _ _ _).drew.below hb4 (by (first | omega | (simp; done) | (simp; omega)))).alloc _).below hb5 (by (first | omega | (simp; done) | (simp; omega)))⟩ | exact ⟨_, _, _, (((Blk.new _ _ _).alloc _).drew.below hb4 (by (first | omega | (simp; done) | (simp; omega)))).below hb5 (by (first | omega | (simp; done) | (simp; omega)))⟩ | exact ⟨_, _, _, ((Blk.new1 _ _ _ _).drew.below hb4 (by (first | omega | (simp; done) | (simp; omega)))).below hb5 (by (first | omega | (simp; done) | (simp; omega)))⟩
           · (first | omega | (simp; done) | (simp; omega)))
  case rest =>
    obtain ⟨rfl, g, g', rfl, rfl, hbel, u0, u1, u2, u3⟩ := hcut
    rw [HQL.out] at u1
    have E5 := Lib.hid (E4.out.below hbel)
    clear hbel
    go_wp2
    refine bodyPost_ret (v := .tuple #[.int .i64 Q, .int .i64 0]) (by simp [results, Try.results7, go_sem]) rfl ⟨rfl, E5.out.bel⟩
end Go.Proofs.Ytignljfeihlanaa
