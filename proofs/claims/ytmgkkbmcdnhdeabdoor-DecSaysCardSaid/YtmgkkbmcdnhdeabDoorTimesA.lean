/- prod.Times, walked: the first has a high word. -/
import Derived.Test.YtmgkkbmcdnhdeabDoorMul
namespace Go.Proofs.YtmgkkbmcdnhdeabDoor
open Go.RowKit
set_option linter.unusedSimpArgs false
set_option linter.unusedVariables false

set_option maxHeartbeats 8000000 in
set_option maxRecDepth 100000 in
theorem times_A (a b : Nat) (ha : a < 2 ^ 128) (hb : b < 18446744073709551616) (hp : 0 < hiN a) (w : World) :
    Calls Tryd.prog 8 #[.agg #[.int .u64 (hiN a), .int .u64 (loN a)], .agg #[.int .u64 (hiN b), .int .u64 (loN b)]] w fun e w' =>
      e = .returned (.tuple #[.agg #[.int .u64 (hiN (fitN (a * b))), .int .u64 (loN (fitN (a * b)))], .int .i64 (fitE (a * b))]) ∧ Below w.heap.size w w' := by
  have hbz : hiN b = 0 := by unfold hiN; omega
  have hbl : loN b = (b : Int) := by unfold loN; omega
  obtain ⟨a1, a2⟩ := hiN_bd a ha
  obtain ⟨a3, a4⟩ := loN_bd a
  rw [hbz, hbl]
  clear hbz hbl
  have E := Lib.hid ((((Env.start w).lay #[.int .u64 (hiN a), .int .u64 (loN a)] 24).lay #[.int .u64 0, .int .u64 (b : Int)] 24).lay #[.int .u64 0, .int .u64 0] 24)
  generalize hah : hiN a = ah at *
  generalize hal : loN a = al at *
  have HAH := Lib.hid hah
  have HAL := Lib.hid hal
  have HA := Lib.hid ha
  have HB := Lib.hid hb
  have HH := Lib.hid (halves a b)
  have hyi : (0 : Int) ≤ (b : Int) := by omega
  have hyj : (b : Int) ≤ 18446744073709551615 := by omega
  clear hah hal ha hb
  go_enter Tryd.func8, Tryd.ntmps8
  go_upto_region 5 with fail
  generalize hW0 : World.alloc (World.alloc (World.alloc _ _) _) _ = W0 at *
  have z1 : w.heap.size + 1 + 1 < W0.heap.size := by rw [← hW0]; simp
  clear hW0
  have c0 := E.out.tl.tl.hd.cell 0
  have c1 := E.out.tl.tl.hd.cell 1
  have c2 := E.out.tl.hd.cell 0
  have c3 := E.out.tl.hd.cell 1
  simp at c0 c1 c2 c3
  have HS := Lib.hid (show ∀ w', Below W0.heap.size W0 w' → (Below W0.heap.size W0 w' ∧ w'.cell? ⟨w.heap.size, 0, none⟩ = some (.int .u64 ah) ∧ w'.cell? ⟨w.heap.size, 1, none⟩ = some (.int .u64 al) ∧ w'.cell? ⟨w.heap.size + 1, 0, none⟩ = some (.int .u64 0) ∧ w'.cell? ⟨w.heap.size + 1, 1, none⟩ = some (.int .u64 (b : Int)))
    from fun w' hb => ⟨hb, (hb.cell (p := ⟨w.heap.size, 0, none⟩) (by simp; omega)).trans c0, (hb.cell (p := ⟨w.heap.size, 1, none⟩) (by simp; omega)).trans c1, (hb.cell (p := ⟨w.heap.size + 1, 0, none⟩) (by simp; omega)).trans c2, (hb.cell (p := ⟨w.heap.size + 1, 1, none⟩) (by simp; omega)).trans c3⟩)
  have HM1 := Lib.hid (fun w' => mul_w al (b : Int) (a % 18446744073709551616) b (by rw [← HAL.out]; rfl) rfl (Nat.mod_lt _ (by decide)) HB.out w')
  have HM2 := Lib.hid (fun w' => mul_w ah (b : Int) (a / 18446744073709551616) b (by rw [← HAH.out]; rfl) rfl (by have := HA.out; omega) HB.out w')
  have hlow : a % 18446744073709551616 * b < 2 ^ 128 := by
    have := Nat.mul_le_mul (show a % 18446744073709551616 ≤ 18446744073709551615 by omega) (show b ≤ 18446744073709551615 by omega)
    omega
  have hhigh : a / 18446744073709551616 * b < 2 ^ 128 := by
    have := Nat.mul_le_mul (show a / 18446744073709551616 ≤ 18446744073709551615 by have := HA.out; omega) (show b ≤ 18446744073709551615 by omega)
    omega
  have HLW := Lib.hid hlow
  have HHI := Lib.hid hhigh
  generalize a % 18446744073709551616 * b = lowN at *
  generalize a / 18446744073709551616 * b = highN at *
  clear c0 c1 c2 c3 hlow hhigh
  go_cut [6, 7] (fun s6 s7 wx => Halves W0 lowN highN s6 s7 wx)
  case first =>
    go_region_held3 (fun w' => Below W0.heap.size W0 w' ∧ w'.cell? ⟨w.heap.size, 0, none⟩ = some (.int .u64 ah) ∧ w'.cell? ⟨w.heap.size, 1, none⟩ = some (.int .u64 al) ∧ w'.cell? ⟨w.heap.size + 1, 0, none⟩ = some (.int .u64 0) ∧ w'.cell? ⟨w.heap.size + 1, 1, none⟩ = some (.int .u64 (b : Int)))
      ((refine HS.out _ ?_; first | exact (Below.refl _ _).drew | exact And.left (by assumption) | exact Below.trans (And.left (by assumption)) (Below.mono hb4 (Below.size (And.left (by assumption)))) | exact Below.trans (And.left (by assumption)) (Below.mono hb5 (Below.size (And.left (by assumption)))) | exact Below.alloc (And.left (by assumption)) (Below.size (And.left (by assumption))) _ | (refine Below.setCell (Below.setCell (And.left (by assumption)) ?_ _) ?_ _ <;> (first | omega | (simp; done) | (simp; omega))) | (refine below_under (And.left (by assumption)) ?_ ?_ ?_ _ _ <;> (first | omega | (simp; done) | (simp; omega))) | (refine below_realloc (And.left (by assumption)) ?_; (first | omega | (simp; done) | (simp; omega))) | (refine below_realloc2 (And.left (by assumption)) ?_; (first | omega | (simp; done) | (simp; omega)))))
      (first
        | (go_at_call 19; (with_reducible refine (HM1.out _).mono ?_); rintro e' w4 ⟨rfl, hb4⟩; have hz4 := hb4.size; obtain ⟨hc4, hf4⟩ := bcell hb4; (try simp at hz4); (try simp only [World.size_alloc, World.heap_drew] at hc4); (try simp only [World.size_alloc, World.heap_drew] at hf4); (try (have hy4 := Nat.lt_of_succ_le hz4)); (try (have hx4 := Nat.lt_of_succ_lt hy4)); (try (have hu4 := Nat.lt_succ_of_lt hy4)); (try (have hu4b := Nat.lt_succ_of_lt hx4)); (try (have hu4c := Nat.lt_succ_of_lt hu4)))
        | (go_at_call 19; (with_reducible refine (HM2.out _).mono ?_); rintro e' w5 ⟨rfl, hb5⟩; have hz5 := hb5.size; obtain ⟨hc5, hf5⟩ := bcell hb5; (try simp at hz5); (try simp only [World.size_alloc, World.heap_drew] at hc5); (try simp only [World.size_alloc, World.heap_drew] at hf5); (try (have hy5 := Nat.lt_of_succ_le hz5)); (try (have hx5 := Nat.lt_of_succ_lt hy5)); (try (have hv1 := Nat.lt_of_lt_of_le hy4 hz5)); (try (have hv2 := Nat.lt_of_lt_of_le hx4 hz5)); (try (have hv3 := Nat.lt_trans hy4 hy5)); (try (have hv4 := Nat.lt_trans hx4 hy5)); (try (have hv5 := Nat.lt_trans hy4 hx5)); (try (have hv6 := Nat.lt_trans hx4 hx5))))
    all_goals
      rename_i hheld
      have hbel := hheld.1
      clear hheld HS HM1 HM2
      go_wp2_with fail
      go_meet
      first
        | with_reducible exact halves_A1 hbel
        | with_reducible exact halves_A2 hbel
        | ((with_reducible refine halves_B1 hbel ?_); first | exact ⟨_, _, _, (Blk.new _ _ _).below hb5 (by (first | omega | (simp; done) | (simp; omega)))⟩ | exact ⟨_, _, _, ((Blk.new _ _ _).alloc _).below hb5 (by (first | omega | (simp; done) | (simp; omega)))⟩ | exact ⟨_, _, _, (Blk.new1 _ _ _ _).below hb5 (by (first | omega | (simp; done) | (simp; omega)))⟩ | exact ⟨_, _, _, ((Blk.new _ _ _).drew.below hb4 (by (first | omega | (simp; done) | (simp; omega)))).below hb5 (by (first | omega | (simp; done) | (simp; omega)))⟩ | exact ⟨_, _, _, (((Blk.new _ _ _).drew.below hb4 (by (first | omega | (simp; done) | (simp; omega)))).alloc _).below hb5 (by (first | omega | (simp; done) | (simp; omega)))⟩ | exact ⟨_, _, _, (((Blk.new _ _ _).alloc _).drew.below hb4 (by (first | omega | (simp; done) | (simp; omega)))).below hb5 (by (first | omega | (simp; done) | (simp; omega)))⟩ | exact ⟨_, _, _, ((Blk.new1 _ _ _ _).drew.below hb4 (by (first | omega | (simp; done) | (simp; omega)))).below hb5 (by (first | omega | (simp; done) | (simp; omega)))⟩)
        | ((with_reducible refine halves_B2 hbel ?_); first | exact ⟨_, _, _, (Blk.new _ _ _).below hb5 (by (first | omega | (simp; done) | (simp; omega)))⟩ | exact ⟨_, _, _, ((Blk.new _ _ _).alloc _).below hb5 (by (first | omega | (simp; done) | (simp; omega)))⟩ | exact ⟨_, _, _, (Blk.new1 _ _ _ _).below hb5 (by (first | omega | (simp; done) | (simp; omega)))⟩ | exact ⟨_, _, _, ((Blk.new _ _ _).drew.below hb4 (by (first | omega | (simp; done) | (simp; omega)))).below hb5 (by (first | omega | (simp; done) | (simp; omega)))⟩ | exact ⟨_, _, _, (((Blk.new _ _ _).drew.below hb4 (by (first | omega | (simp; done) | (simp; omega)))).alloc _).below hb5 (by (first | omega | (simp; done) | (simp; omega)))⟩ | exact ⟨_, _, _, (((Blk.new _ _ _).alloc _).drew.below hb4 (by (first | omega | (simp; done) | (simp; omega)))).below hb5 (by (first | omega | (simp; done) | (simp; omega)))⟩ | exact ⟨_, _, _, ((Blk.new1 _ _ _ _).drew.below hb4 (by (first | omega | (simp; done) | (simp; omega)))).below hb5 (by (first | omega | (simp; done) | (simp; omega)))⟩)
        | ((with_reducible refine halves_C hbel ?_ ?_ ?_); · first | exact ⟨_, _, _, (Blk.new _ _ _).below hb5 (by (first | omega | (simp; done) | (simp; omega)))⟩ | exact ⟨_, _, _, ((Blk.new _ _ _).alloc _).below hb5 (by (first | omega | (simp; done) | (simp; omega)))⟩ | exact ⟨_, _, _, (Blk.new1 _ _ _ _).below hb5 (by (first | omega | (simp; done) | (simp; omega)))⟩ | exact ⟨_, _, _, ((Blk.new _ _ _).drew.below hb4 (by (first | omega | (simp; done) | (simp; omega)))).below hb5 (by (first | omega | (simp; done) | (simp; omega)))⟩ | exact ⟨_, _, _, (((Blk.new _ _ _).drew.below hb4 (by (first | omega | (simp; done) | (simp; omega)))).alloc _).below hb5 (by (first | omega | (simp; done) | (simp; omega)))⟩ | exact ⟨_, _, _, (((Blk.new _ _ _).alloc _).drew.below hb4 (by (first | omega | (simp; done) | (simp; omega)))).below hb5 (by (first | omega | (simp; done) | (simp; omega)))⟩ | exact ⟨_, _, _, ((Blk.new1 _ _ _ _).drew.below hb4 (by (first | omega | (simp; done) | (simp; omega)))).below hb5 (by (first | omega | (simp; done) | (simp; omega)))⟩
           · first | exact ⟨_, _, _, (Blk.new _ _ _).below hb5 (by (first | omega | (simp; done) | (simp; omega)))⟩ | exact ⟨_, _, _, ((Blk.new _ _ _).alloc _).below hb5 (by (first | omega | (simp; done) | (simp; omega)))⟩ | exact ⟨_, _, _, (Blk.new1 _ _ _ _).below hb5 (by (first | omega | (simp; done) | (simp; omega)))⟩ | exact ⟨_, _, _, ((Blk.new _ _ _).drew.below hb4 (by (first | omega | (simp; done) | (simp; omega)))).below hb5 (by (first | omega | (simp; done) | (simp; omega)))⟩ | exact ⟨_, _, _, (((Blk.new _ _ _).drew.below hb4 (by (first | omega | (simp; done) | (simp; omega)))).alloc _).below hb5 (by (first | omega | (simp; done) | (simp; omega)))⟩ | exact ⟨_, _, _, (((Blk.new _ _ _).alloc _).drew.below hb4 (by (first | omega | (simp; done) | (simp; omega)))).below hb5 (by (first | omega | (simp; done) | (simp; omega)))⟩ | exact ⟨_, _, _, ((Blk.new1 _ _ _ _).drew.below hb4 (by (first | omega | (simp; done) | (simp; omega)))).below hb5 (by (first | omega | (simp; done) | (simp; omega)))⟩
           · (first | omega | (simp; done) | (simp; omega)))
  case rest =>
    obtain ⟨g, g', rfl, rfl, hbel, u0, u1, u2, u3⟩ := hcut
    have E2 := Lib.hid (E.out.below hbel)
    clear hbel E
    have p0 := E2.out.hd.lt
    have b0 := E2.out.hd.cell 0
    have b1 := E2.out.hd.cell 1
    have f0 := E2.out.hd.frozen 0
    have f1 := E2.out.hd.frozen 1
    simp at b0 b1 f0 f1 p0
    obtain ⟨m0, m1⟩ := hiN_bd lowN HLW.out
    obtain ⟨m2, m3⟩ := loN_bd lowN
    obtain ⟨m4, m5⟩ := hiN_bd highN HHI.out
    obtain ⟨m6, m7⟩ := loN_bd highN
    by_cases hbig : 0 < hiN highN
    · have HF := Lib.hid (show fitN (a * b) = 0 ∧ fitE (a * b) = 2 by
        have hge : 2 ^ 128 ≤ a * b := by rw [HH.out]; unfold hiN at hbig; omega
        unfold fitN fitE
        rw [if_neg (by omega), if_neg (by omega)]
        exact ⟨rfl, rfl⟩)
      go_wp2
      refine bodyPost_ret (v := .tuple #[.agg #[.int .u64 0, .int .u64 0], .int .i64 2]) (by simp [results, Tryd.results8, go_sem, *]) rfl ⟨by rw [HF.out.1, HF.out.2]; rfl, ?_⟩
      exact (E2.out.bel.setCell (by simp <;> omega) _).setCell (by simp <;> omega) _
    · have HY := Lib.hid (show WN (loN highN) 0 (highN * 18446744073709551616) from ⟨by unfold hiN at hbig; unfold hiN loN; omega, by unfold loN; omega, by unfold hiN at hbig; omega⟩)
      have HAD := Lib.hid (fun w' => wide_add_any _ _ _ _ lowN (highN * 18446744073709551616) (WN.mk' lowN HLW.out) HY.out w')
      have HSUM := Lib.hid (show lowN + highN * 18446744073709551616 = a * b by rw [HH.out, Nat.add_comm])
      have hsm : hiN highN ≤ 0 := by omega
      clear hbig
      go_wp2_with fail
      refine (HAD.out _).mono ?_
      rintro e' w6 ⟨rfl, hb6⟩
      rw [HSUM.out]
      generalize hfe : fitE (a * b) = fe
      have hfl := fitN_lt (a * b)
      generalize hfn : fitN (a * b) = fn at *
      have HFE := Lib.hid hfe
      have HFN := Lib.hid hfn
      clear hfe hfn
      have E3 := Lib.hid (E2.out.below hb6)
      clear hb6 b0 b1 f0 f1 p0 u0 u1 u2 u3
      have p0 := E3.out.hd.lt
      have b0 := E3.out.hd.cell 0
      have b1 := E3.out.hd.cell 1
      have f0 := E3.out.hd.frozen 0
      have f1 := E3.out.hd.frozen 1
      simp at b0 b1 f0 f1 p0
      go_wp2
      refine bodyPost_ret (v := .tuple #[.agg #[.int .u64 (hiN fn), .int .u64 (loN fn)], .int .i64 fe]) (by simp [results, Tryd.results8, go_sem, *]) rfl ⟨by rw [HFE.out, HFN.out], ?_⟩
      exact (E3.out.bel.setCell (by simp <;> omega) _).setCell (by simp <;> omega) _
end Go.Proofs.YtmgkkbmcdnhdeabDoor
