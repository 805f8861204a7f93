/- prod.Div, walked: a divisor of more than 64 bits: the walk; all cases joined. -/
import Derived.Test.YtmgkkbmcdnhdeabDoorDivB
import Derived.Test.YtmgkkbmcdnhdeabDoorDiv
namespace Go.Proofs.YtmgkkbmcdnhdeabDoor
open Go.RowKit
set_option linter.unusedSimpArgs false
set_option linter.unusedVariables false

set_option maxHeartbeats 8000000 in
set_option maxRecDepth 100000 in
theorem div_big (a b : Nat) (ha : a < 2 ^ 128) (hb : b < 2 ^ 128) (h64 : 18446744073709551616 ≤ b) (hge : b ≤ a) (w : World) :
    Calls Tryd.prog 16 #[.agg #[.int .u64 (hiN a), .int .u64 (loN a)], .agg #[.int .u64 (hiN b), .int .u64 (loN b)]] w (DivIs (a / b) (a % b) 0 w) := by
  obtain ⟨k, hk⟩ : ∃ k, k + Bt.blen b = Bt.blen a := ⟨_, Nat.sub_add_cancel (Lg.blen_mono hge)⟩
  have HC := Lib.hid (fun w' => wide_cmp _ _ _ _ a b (WN.mk' a ha) (WN.mk' b hb) w')
  have HLA := Lib.hid (fun w' => wide_len _ _ a (WN.mk' a ha) w')
  have HLB := Lib.hid (fun w' => wide_len _ _ b (WN.mk' b hb) w')
  have hneg := cmpN_nonneg hge
  have HK := Lib.hid hk
  have hk63 := Lg.k_le ha h64 hk
  have hbl := Bt.blen_le ha
  have HUF := Lib.hid (fun i hi => Lg.up_fits (a := a) (b := b) (k := k) (i := i) (by omega) ha hk hi)
  have HST := Lib.hid (Lg.start (a := a) (b := b) (k := k) (by omega) hk)
  have HA := Lib.hid ha
  have HB := Lib.hid hb
  have H64 := Lib.hid h64
  have hhz : (hiN b == 0) = false := by have : 0 < hiN b := by (unfold hiN; omega)
                                        simp; omega
  generalize cmpN a b = cc at *
  generalize hah : hiN a = ah at *
  generalize hal : loN a = al at *
  generalize hbh : hiN b = bh at *
  generalize hbl2 : loN b = bl at *
  have HAH := Lib.hid hah
  have HAL := Lib.hid hal
  have HBH := Lib.hid hbh
  have HBL := Lib.hid hbl2
  have HKI := Lib.hid (show ((Bt.blen a : Nat) : Int) - (Bt.blen b : Nat) = (k : Int) by omega)
  have hbb : Bt.blen b ≤ 128 := by omega
  generalize Bt.blen a = la at *
  generalize Bt.blen b = lb at *
  clear hah hal hbh hbl2 ha hb h64 hge hk
  have E := Lib.hid (((((Env.start w).lay #[.int .u64 ah, .int .u64 al] 24).lay #[.int .u64 bh, .int .u64 bl] 24).lay #[.int .u64 0, .int .u64 0] 24).lay #[.int .u64 0, .int .u64 0] 24)
  simp only [World.size_alloc] at E
  go_enter Tryd.func16, Tryd.ntmps16
  go_wp2_with fail
  refine (HC.out _).mono ?_
  rintro e' w1 ⟨rfl, hb1⟩
  have E1 := Lib.hid (E.out.below hb1)
  clear hb1 E
  have x0 := E1.out.tl.tl.tl.hd.cell 0
  have x1 := E1.out.tl.tl.tl.hd.cell 1
  have y0 := E1.out.tl.tl.hd.cell 0
  have y1 := E1.out.tl.tl.hd.cell 1
  simp at x0 x1 y0 y1
  go_upto_region 10 with fail
  have HS := Lib.hid (show ∀ w', Below w1.heap.size w1 w' → (Below w1.heap.size w1 w' ∧ w'.cell? ⟨w.heap.size, 0, none⟩ = some (.int .u64 ah) ∧ w'.cell? ⟨w.heap.size, 1, none⟩ = some (.int .u64 al) ∧ w'.cell? ⟨w.heap.size + 1, 0, none⟩ = some (.int .u64 bh) ∧ w'.cell? ⟨w.heap.size + 1, 1, none⟩ = some (.int .u64 bl))
    from fun w' h => ⟨h, (E1.out.below h).tl.tl.tl.hd.cell 0, (E1.out.below h).tl.tl.tl.hd.cell 1, (E1.out.below h).tl.tl.hd.cell 0, (E1.out.below h).tl.tl.hd.cell 1⟩)
  clear x0 x1 y0 y1
  have tok1 : True := trivial
  go_cut [11] (fun s11 wx => s11 = .int .i64 k ∧ Below w1.heap.size w1 wx)
  case first =>
    go_region_held3 (fun w' => Below w1.heap.size w1 w' ∧ w'.cell? ⟨w.heap.size, 0, none⟩ = some (.int .u64 ah) ∧ w'.cell? ⟨w.heap.size, 1, none⟩ = some (.int .u64 al) ∧ w'.cell? ⟨w.heap.size + 1, 0, none⟩ = some (.int .u64 bh) ∧ w'.cell? ⟨w.heap.size + 1, 1, none⟩ = some (.int .u64 bl))
      ((refine HS.out _ ?_; repeat (first | (with_reducible exact hL3) | (with_reducible exact hL2) | (with_reducible exact Below.refl _ _) | (with_reducible refine Below.drew ?_))))
      (first
        | (go_at_call 31; have _t := tok1; (with_reducible refine (HLA.out _).mono ?_); rintro e' w2 ⟨rfl, hb2⟩; have hL2 : Below w1.heap.size w1 w2 := Below.thru' (by repeat (first | (with_reducible exact Below.refl _ _) | (with_reducible refine Below.drew ?_))) hb2; clear tok1 _t)
        | (go_at_call 31; (with_reducible refine (HLB.out _).mono ?_); rintro e' w3 ⟨rfl, hb3⟩; have hL3 : Below w1.heap.size w1 w3 := Below.thru' (by repeat (first | (with_reducible exact hL2) | (with_reducible refine Below.drew ?_))) hb3))
    all_goals
      rename_i hheld
      have hbel := hheld.1
      clear hheld HS
      go_wp2_with fail
      go_meet
      exact ⟨by rw [HKI.out, IntWalk.i64_in _ (by omega)], hbel⟩
  case rest =>
    obtain ⟨rfl, hbel⟩ := hcut
    have E2 := Lib.hid (E1.out.below hbel)
    clear hbel HS E1 tok1
    have E3 := Lib.hid (show Env w wc [(w.heap.size, 24, #[.int .u64 (hiN a), .int .u64 (loN a)]), (w.heap.size + 1, 24, #[.int .u64 bh, .int .u64 bl]), (w.heap.size + 1 + 1, 24, #[.int .u64 0, .int .u64 0]), (w.heap.size + 1 + 1 + 1, 24, #[.int .u64 0, .int .u64 0])] by
      rw [HAH.out, HAL.out]
      exact E2.out.drop fun x hx => by simp at hx ⊢; rcases hx with h | h | h | h <;> simp [h])
    clear E2
    go_wp2_with fail
    go_loopw [10, 11] (fun qv nv wr => ∃ j q r : Nat, j ≤ k + 1 ∧ nv = .int .i64 ((j : Int) - 1) ∧ qv = .int .u64 (q : Int) ∧ Lg.Inv a b j q r ∧ Env w wr [(w.heap.size, 24, #[.int .u64 (hiN r), .int .u64 (loN r)]), (w.heap.size + 1, 24, #[.int .u64 bh, .int .u64 bl]), (w.heap.size + 1 + 1, 24, #[.int .u64 0, .int .u64 0]), (w.heap.size + 1 + 1 + 1, 24, #[.int .u64 0, .int .u64 0])]) (fun _ nv _ => (intOf nv + 1).toNat)
    case atStart => exact ⟨k + 1, 0, a, Nat.le_refl _, by simp, rfl, HST.out, E3.out⟩
    case round =>
      obtain ⟨j, q, r, hj, rfl, rfl, hinv, hE⟩ := hrel
      have F := Lib.hid hE
      have HI := Lib.hid hinv
      obtain ⟨hq64, hr128⟩ := Lg.qlt hinv HA.out H64.out
      clear hE hinv E3 HST
      rcases Nat.eq_zero_or_pos j with hj0 | hj0
      · subst hj0
        obtain ⟨d1, d2⟩ := Lg.done HI.out
        have D1 := Lib.hid d1
        have D2 := Lib.hid d2
        clear d1 d2
        have x0 := F.out.hd.cell 0
        have x1 := F.out.hd.cell 1
        have q0 := F.out.tl.tl.hd.cell 0
        have q1 := F.out.tl.tl.hd.cell 1
        have g0 := F.out.tl.tl.hd.frozen 0
        have g1 := F.out.tl.tl.hd.frozen 1
        have r0 := F.out.tl.tl.tl.hd.cell 0
        have r1 := F.out.tl.tl.tl.hd.cell 1
        have g2 := F.out.tl.tl.tl.hd.frozen 0
        have g3 := F.out.tl.tl.tl.hd.frozen 1
        simp at x0 x1 q0 q1 r0 r1 g0 g1 g2 g3
        go_wp2
        go_region
        go_wp2
        have B2 := ((((F.out.tl.tl.hd.set_ 0 (.int .u64 0)).set_ 1 (.int .u64 (q : Int))).far (p := ⟨w.heap.size + 1 + 1 + 1, 0, none⟩) (by simp) (.int .u64 (hiN r))).far (p := ⟨w.heap.size + 1 + 1 + 1, 1, none⟩) (by simp) (.int .u64 (loN r))).drew
        have B3 := ((((F.out.tl.tl.tl.hd.far (p := ⟨w.heap.size + 1 + 1, 0, none⟩) (by simp) (.int .u64 0)).far (p := ⟨w.heap.size + 1 + 1, 1, none⟩) (by simp) (.int .u64 (q : Int))).set_ 0 (.int .u64 (hiN r))).set_ 1 (.int .u64 (loN r))).drew
        refine bodyPost_ret (v := .tuple #[.agg #[.int .u64 0, .int .u64 (q : Int)], .agg #[.int .u64 (hiN r), .int .u64 (loN r)], .int .i64 0]) (results_2c Tryd.results16 rfl rfl rfl (B2.cell_eq' rfl) (B2.cell_eq' rfl) (B3.cell_eq' rfl) (B3.cell_eq' rfl)) rfl ⟨?_, ?_⟩
        · rw [← D1.out, ← D2.out]
          have t0 : hiN q = 0 := by unfold hiN; omega
          have t1 : loN q = (q : Int) := by unfold loN; omega
          rw [t0, t1]
        · exact ((((F.out.bel.setCell (by simp <;> omega) _).setCell (by simp <;> omega) _).setCell (by simp <;> omega) _).setCell (by simp <;> omega) _).drew
      · obtain ⟨i, rfl⟩ : ∃ i, j = i + 1 := ⟨j - 1, by omega⟩
        have e0 : ((i + 1 : Nat) : Int) - 1 = (i : Int) := by omega
        rw [e0]
        clear e0
        have hik : i ≤ k := by omega
        have hup := HUF.out i hik
        have HUP := Lib.hid (fun w' => wide_up bh bl b (i : Int) ⟨HBH.out.symm, HBL.out.symm, HB.out⟩ (by omega) (by omega) w')
        have hmod : b * 2 ^ ((i : Int)).toNat % 2 ^ 128 = b * 2 ^ i := by rw [Int.toNat_natCast]; exact Nat.mod_eq_of_lt hup
        rw [hmod] at HUP
        clear hmod
        have HSB := Lib.hid (fun w' => wide_sub_any _ _ _ _ r (b * 2 ^ i) (WN.mk' r hr128) (WN.mk' (b * 2 ^ i) hup) w')
        have HMORE := Lib.hid (show b * 2 ^ i ≤ r → Lg.Inv a b i (q ||| 2 ^ i) (r - b * 2 ^ i) from Lg.more HI.out)
        have HLESS := Lib.hid (show r < b * 2 ^ i → Lg.Inv a b i q r from Lg.less HI.out)
        have hp64 : 2 ^ i < 18446744073709551616 := Nat.lt_of_le_of_lt (Nat.pow_le_pow_right (by omega) (show i ≤ 63 by omega)) (by decide)
        have hpos : 0 < 2 ^ i := Nat.two_pow_pos i
        have HOR := Lib.hid (u64_or_nat q (2 ^ i) hq64 hp64)
        have HSUBE := Lib.hid (show b * 2 ^ i ≤ r → subE r (b * 2 ^ i) = 0 from fun h => if_pos h)
        have HSUBN := Lib.hid (show ¬ b * 2 ^ i ≤ r → subE r (b * 2 ^ i) = 7 from fun h => if_neg h)
        generalize b * 2 ^ i = up at *
        have x0 := F.out.hd.cell 0
        have x1 := F.out.hd.cell 1
        have y0 := F.out.tl.hd.cell 0
        have y1 := F.out.tl.hd.cell 1
        simp at x0 x1 y0 y1
        go_upto_region 13 with fail
        have HS := Lib.hid (show ∀ w', Below wr.heap.size wr w' → (Below wr.heap.size wr w' ∧ w'.cell? ⟨w.heap.size, 0, none⟩ = some (.int .u64 (hiN r)) ∧ w'.cell? ⟨w.heap.size, 1, none⟩ = some (.int .u64 (loN r)) ∧ w'.cell? ⟨w.heap.size + 1, 0, none⟩ = some (.int .u64 bh) ∧ w'.cell? ⟨w.heap.size + 1, 1, none⟩ = some (.int .u64 bl))
          from fun w' h => ⟨h, (F.out.below h).hd.cell 0, (F.out.below h).hd.cell 1, (F.out.below h).tl.hd.cell 0, (F.out.below h).tl.hd.cell 1⟩)
        clear x0 x1 y0 y1
        generalize hse : subE r up = se at *
        have HSE := Lib.hid hse
        clear hse
        go_cut [12, 13] (fun s12 s13 wx => s13 = .int .i64 se ∧ Got wr (r - up) s12 wx)
        case first =>
          go_region_held3 (fun w' => Below wr.heap.size wr w' ∧ w'.cell? ⟨w.heap.size, 0, none⟩ = some (.int .u64 (hiN r)) ∧ w'.cell? ⟨w.heap.size, 1, none⟩ = some (.int .u64 (loN r)) ∧ w'.cell? ⟨w.heap.size + 1, 0, none⟩ = some (.int .u64 bh) ∧ w'.cell? ⟨w.heap.size + 1, 1, none⟩ = some (.int .u64 bl))
            ((refine HS.out _ ?_; repeat (first | (with_reducible exact hL5) | (with_reducible exact hL4) | (with_reducible exact Below.refl _ _) | (with_reducible refine Below.al' ?_) | (with_reducible refine Below.drew ?_) | ((with_reducible refine Below.setCell ?_ ?_ _); rotate_left; · (first | omega | (simp; done) | (simp; omega))))))
            (first
              | (go_at_call 33; (with_reducible refine (HUP.out _).mono ?_); rintro e' w4 ⟨rfl, hb4⟩; have hz4 := hb4.size; (try simp at hz4); obtain ⟨hc4, hf4⟩ := bcell hb4; (try simp only [World.size_alloc, World.heap_drew] at hc4); (try simp only [World.size_alloc, World.heap_drew] at hf4); (try (have hy4 := Nat.lt_of_succ_le hz4)); (try (have hx4 := Nat.lt_of_succ_lt hy4)); (try (have hu4 := Nat.lt_succ_of_lt hy4)); (try (have hu4b := Nat.lt_succ_of_lt hx4)); (try (have hu4c := Nat.lt_succ_of_lt hu4)); have hL4 : Below wr.heap.size wr w4 := Below.thru' (by repeat (first | (with_reducible exact Below.refl _ _) | (with_reducible refine Below.al' ?_) | (with_reducible refine Below.drew ?_))) hb4)
              | (go_at_call 32; (with_reducible refine (HSB.out _).mono ?_); rintro e' w5 ⟨rfl, hb5⟩; have hz5 := hb5.size; (try simp at hz5); obtain ⟨hc5, hf5⟩ := bcell hb5; (try simp only [World.size_alloc, World.heap_drew] at hc5); (try simp only [World.size_alloc, World.heap_drew] at hf5); (try (have hy5 := Nat.lt_of_succ_le hz5)); (try (have hx5 := Nat.lt_of_succ_lt hy5)); (try (have hv1 := Nat.lt_of_lt_of_le hy4 hz5)); (try (have hv2 := Nat.lt_of_lt_of_le hx4 hz5)); (try (have hv3 := Nat.lt_trans hy4 hy5)); (try (have hv4 := Nat.lt_trans hx4 hy5)); (try (have hv5 := Nat.lt_trans hy4 hx5)); (try (have hv6 := Nat.lt_trans hx4 hx5)); have hL5 : Below wr.heap.size wr w5 := Below.thru' (by repeat (first | (with_reducible exact hL4) | (with_reducible exact Below.refl _ _) | (with_reducible refine Below.al' ?_) | (with_reducible refine Below.drew ?_))) hb5))
          all_goals
            rename_i hheld
            have hbel := hheld.1
            clear hheld HS
            go_wp2_with fail
            go_meet
            refine ⟨rfl, ?_⟩
            first
              | with_reducible exact got_new hbel
              | ((with_reducible refine got_set hbel ?_); first | exact ⟨_, _, (Blk.new _ _ _).below hb5 (by (first | omega | (simp; done) | (simp; omega)))⟩ | exact ⟨_, _, ((Blk.new _ _ _).drew.below hb4 (by (first | omega | (simp; done) | (simp; omega)))).below hb5 (by (first | omega | (simp; done) | (simp; omega)))⟩ | exact ⟨_, _, ((Blk.new _ _ _).below hb4 (by (first | omega | (simp; done) | (simp; omega)))).below hb5 (by (first | omega | (simp; done) | (simp; omega)))⟩)
        case rest =>
          obtain ⟨rfl, g, rfl, hbel, hgb⟩ := hcut
          have F2 := Lib.hid (F.out.below hbel)
          have d0 := hgb.cell 0
          have d1 := hgb.cell 1
          have x0 := F2.out.hd.cell 0
          have x1 := F2.out.hd.cell 1
          have f0 := F2.out.hd.frozen 0
          have f1 := F2.out.hd.frozen 1
          simp at d0 d1 x0 x1 f0 f1
          have hpi : (2 : Int) ^ i = ((2 ^ i : Nat) : Int) := (Int.natCast_pow 2 i).symm
          clear hbel hgb HS HUP HSB F HUF
          by_cases hle : up ≤ r
          · have hs0 : se = 0 := HSUBE.out hle
            subst hs0
            have HM := Lib.hid (HMORE.out hle)
            have hor := HOR.out
            clear HMORE HLESS hle HSUBE HSUBN HSE
            generalize q ||| 2 ^ i = q2 at *
            generalize 2 ^ i = pp at *
            generalize r - up = r2 at *
            have F3 := Lib.hid (dsetHd (dsetHd F2.out (by simp; omega) 0 (.int .u64 (hiN r2))) (by simp; omega) 1 (.int .u64 (loN r2))).drew
            go_wp2
            go_region
            go_wp2
            go_roundw
            case rel => exact ⟨i, q2, r2, by omega, by simp, rfl, HM.out, F3.out⟩
            case measure => simp [intOf]
          · have hs0 : se = 7 := HSUBN.out hle
            subst hs0
            have HM := Lib.hid (HLESS.out (by omega))
            clear HMORE HLESS hle HSUBE HSUBN HSE hpi HOR
            go_wp2
            go_roundw
            case rel => exact ⟨i, q, r, by omega, by simp, rfl, HM.out, F2.out⟩
            case measure => simp [intOf]

theorem div_any (a b : Nat) (ha : a < 2 ^ 128) (hb : b < 2 ^ 128) (h0 : 0 < b) (w : World) :
    Calls Tryd.prog 16 #[.agg #[.int .u64 (hiN a), .int .u64 (loN a)], .agg #[.int .u64 (hiN b), .int .u64 (loN b)]] w (DivIs (a / b) (a % b) 0 w) := by
  rcases Nat.lt_or_ge a b with hlt | hge
  · rw [Nat.div_eq_of_lt hlt, Nat.mod_eq_of_lt hlt]
    by_cases hp : 0 < hiN b
    · exact div_less_h a b ha hb hlt hp w
    · exact div_less_l a b ha hb hlt (by have := (hiN_bd b hb).1; omega) w
  · rcases Nat.lt_or_ge b 18446744073709551616 with h | h
    · have e0 : hiN b = 0 := by unfold hiN; omega
      have e1 : loN b = (b : Int) := by unfold loN; omega
      rw [e0, e1]
      exact div_mid a b ha h h0 hge w
    · exact div_big a b ha hb h hge w
end Go.Proofs.YtmgkkbmcdnhdeabDoor
