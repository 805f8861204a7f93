/- root.Root, walked. -/
import Derived.Test.YtoemnfjodhbbgadRootP
import Derived.Test.YtoemnfjodhbbgadDivC
import Derived.Test.YtoemnfjodhbbgadWAdd
import Derived.Test.YtoemnfjodhbbgadWShr
import Derived.Test.YtoemnfjodhbbgadWLen
namespace Go.Proofs.Ytoemnfjodhbbgad
open Go.RowKit
set_option linter.unusedSimpArgs false
set_option linter.unusedVariables false

theorem lo_words (x : Nat) (h : x < 18446744073709551616) : hiN x = 0 ∧ loN x = (x : Int) := ⟨by unfold hiN; omega, by unfold loN; omega⟩
theorem div_lo (a x : Nat) (ha : a < 2 ^ 128) (hx : x < 18446744073709551616) (h0 : 0 < x) (w : World) :
    Calls Try.prog 16 #[.agg #[.int .u64 (hiN a), .int .u64 (loN a)], .agg #[.int .u64 0, .int .u64 (x : Int)]] w (DivIs (a / x) (a % x) 0 w) := by
  have := div_any a x ha (by omega) h0 w
  rw [(lo_words x hx).1, (lo_words x hx).2] at this
  exact this
theorem add_lo (q x : Nat) (hq : q + x < 2 ^ 128) (hx : x < 18446744073709551616) (w : World) :
    Calls Try.prog 17 #[.agg #[.int .u64 (hiN q), .int .u64 (loN q)], .agg #[.int .u64 0, .int .u64 (x : Int)]] w fun e w' =>
      e = .returned (.tuple #[.agg #[.int .u64 (hiN (q + x)), .int .u64 (loN (q + x))], .int .i64 0]) ∧ Below w.heap.size w w' := by
  have := wide_add_any (hiN q) (loN q) 0 (x : Int) q x (WN.mk' q (by omega)) ⟨(lo_words x hx).1.symm, (lo_words x hx).2.symm, by omega⟩ w
  rw [show fitN (q + x) = q + x from if_pos hq, show fitE (q + x) = 0 from if_pos hq] at this
  exact this
theorem half (s : Nat) (hs : s < 2 ^ 128) (w : World) :
    Calls Try.prog 18 #[.agg #[.int .u64 (hiN s), .int .u64 (loN s)], .int .i64 1] w fun e w' =>
      e = .returned (.tuple #[.agg #[.int .u64 (hiN (s / 2)), .int .u64 (loN (s / 2))], .int .i64 0]) ∧ Below w.heap.size w w' := by
  have := shr_any (hiN s) (loN s) s 1 (WN.mk' s hs) (by omega) (by omega) w
  rw [show ((1 : Int)).toNat = 1 from rfl, Nat.pow_one] at this
  exact this

set_option maxHeartbeats 4000000 in
set_option maxRecDepth 100000 in
theorem root_ok (a r : Nat) (ha : a < 2 ^ 128) (hr : Rt.IsRoot a r) (w : World) :
    Calls Try.prog 6 #[.agg #[.int .u64 (hiN a), .int .u64 (loN a)]] w fun e w' => e = .returned (.int .u64 (r : Int)) ∧ Below w.heap.size w w' := by
  have HR := Lib.hid hr
  have HA := Lib.hid ha
  have hrl := Rt.root_lt hr ha
  have HLEN := Lib.hid (fun w => wide_len (hiN a) (loN a) a (WN.mk' a ha) w)
  have HDIV := Lib.hid (fun x hx h0 w => div_lo a x ha hx h0 w)
  have HLB := Lib.hid (show a < 2 ^ Bt.blen a from Bt.lt_blen a)
  have hlen := Bt.blen_le ha
  obtain ⟨a1, a2⟩ := hiN_bd a ha
  obtain ⟨a3, a4⟩ := loN_bd a
  have E := Lib.hid ((Env.start w).lay #[.int .u64 (hiN a), .int .u64 (loN a)] 24)
  by_cases hsm : a < 2
  · have h0 : hiN a = 0 := by unfold hiN; omega
    have h1 : loN a = (a : Int) := by unfold loN; omega
    have HQ := Lib.hid (show a = r from Rt.root_eq hr (by rcases (show a = 0 ∨ a = 1 by omega) with h | h <;> subst h <;> decide) (by rcases (show a = 0 ∨ a = 1 by omega) with h | h <;> subst h <;> decide))
    rw [h0, h1] at E ⊢
    have hs2 : (a : Int) < 2 := by omega
    clear h0 h1 hr ha HDIV HLB a1 a2 a3 a4
    go_enter Try.func6, Try.ntmps6
    go_wp2
    go_ret
    exact ⟨by rw [← HQ.out]; rfl, E.out.bel⟩
  · have HSM := Lib.hid (show 2 ≤ a by omega)
    have hguard : (hiN a == 0 && decide (loN a < 2)) = false := by
      by_cases h : hiN a = 0
      · have : ¬ loN a < 2 := by unfold hiN at h; unfold loN; omega
        simp [this]
      · simp [h]
    have hor : (¬ hiN a = 0) ∨ (hiN a = 0 ∧ ¬ loN a < 2) := by unfold hiN loN; omega
    clear hr ha hsm hguard
    -- the first guess
    have HG := Lib.hid (show ∀ x : Nat, (Bt.blen a < 127 → x = 2 ^ ((Bt.blen a + 1) / 2)) → (¬ Bt.blen a < 127 → x = 18446744073709551615) → 0 < x ∧ x < 18446744073709551616 ∧ a < (x + 1) * (x + 1) from fun x h1 h2 => by
      by_cases hl : Bt.blen a < 127
      · rw [h1 hl]
        have hb : 2 ^ ((Bt.blen a + 1) / 2) ≤ 2 ^ 63 := Nat.pow_le_pow_right (by omega) (by omega)
        exact ⟨Nat.two_pow_pos _, by omega, Rt.start_ok HLB.out⟩
      · rw [h2 hl]
        exact ⟨by omega, by omega, by have := HA.out; omega⟩)
    generalize hah : hiN a = ah at *
    generalize hal : loN a = al at *
    have HAH := Lib.hid hah
    have HAL := Lib.hid hal
    clear hah hal
    rcases hor with hg | ⟨hg, hg2⟩
    · have hgb : (ah == 0) = false := by simpa using hg
      clear hg
      by_cases hl : Bt.blen a < 127
      · go_enter Try.func6, Try.ntmps6
        go_wp2_with fail
        refine (HLEN.out _).mono ?_
        rintro e' w1 ⟨rfl, hb1⟩
        have E1 := Lib.hid (E.out.below hb1)
        clear hb1 E
        have x0 := E1.out.hd.cell 0
        have x1 := E1.out.hd.cell 1
        have p0 := E1.out.hd.lt
        simp at x0 x1
        have HGX := Lib.hid (HG.out (2 ^ ((Bt.blen a + 1) / 2)) (fun _ => rfl) (fun h => absurd hl h))
        generalize Bt.blen a = la at *
        go_wp2_with fail
        refine (HLEN.out _).mono ?_
        rintro e' w2 ⟨rfl, hb2⟩
        have E2 := Lib.hid (E1.out.below hb2)
        clear hb2 x0 x1 p0
        obtain ⟨s0, s1, s2⟩ := HGX.out
        obtain ⟨xs, hxs⟩ : ∃ xs : Nat, xs = 2 ^ ((la + 1) / 2) := ⟨_, rfl⟩
        rw [← hxs] at s0 s1 s2
        have hh : ((la : Int) + 1) / 2 = (((la + 1) / 2 : Nat) : Int) := by omega
        have hxi : (2 : Int) ^ ((la + 1) / 2) = (xs : Int) := by rw [hxs]; exact (Int.natCast_pow 2 _).symm
        have hlb : (la + 1) / 2 ≤ 63 := by omega
        generalize (la + 1) / 2 = hl2 at *
        go_wp2_with fail
        rw [hh]
        clear hh hxs
        go_wp2_with fail
        go_loopw [3] (fun v wr => ∃ x : Nat, v = .int .u64 (x : Int) ∧ 0 < x ∧ x < 18446744073709551616 ∧ a < (x + 1) * (x + 1) ∧ Env w wr [(w.heap.size, 24, #[.int .u64 ah, .int .u64 al])]) (fun v _ => (intOf v).toNat)
        case atStart => exact ⟨xs, rfl, s0, s1, s2, E2.out⟩
        case round =>
          obtain ⟨x, rfl, hx0, hx1, hx2, hE⟩ := hrel
          have F := Lib.hid hE
          have HX2 := Lib.hid hx2
          have hq := Rt.quot_le hx0 hx2
          have NW := Lib.hid (Rt.newton (a := a) hx0)
          have NS := Lib.hid (Rt.newton_stop (a := a) hx0)
          have HDV := Lib.hid (HDIV.out x hx1 hx0)
          clear hE hx2 E2 s0 s1 s2
          have hqx : a / x + x < 2 ^ 128 := by omega
          have HAD := Lib.hid (fun w => add_lo (a / x) x hqx hx1 w)
          have HSH := Lib.hid (fun w => half (a / x + x) hqx w)
          generalize a / x = q at *
          generalize a % x = rr at *
          have c0 := F.out.hd.cell 0
          have c1 := F.out.hd.cell 1
          have p0 := F.out.hd.lt
          simp at c0 c1
          go_wp2_with fail
          refine (HDV.out _).mono ?_
          rintro e' w3 ⟨rfl, hb3⟩
          have F3 := Lib.hid (((F.out.below hb3).lay #[.int .u64 (hiN q), .int .u64 (loN q)] 24).lay #[.int .u64 (hiN rr), .int .u64 (loN rr)] 24)
          clear hb3 c0 c1 p0 F
          go_wp2_with fail
          refine (HAD.out _).mono ?_
          rintro e' w4 ⟨rfl, hb4⟩
          have F4 := Lib.hid ((F3.out.below hb4).lay #[.int .u64 (hiN (q + x)), .int .u64 (loN (q + x))] 24)
          clear hb4 F3
          go_wp2_with fail
          refine (HSH.out _).mono ?_
          rintro e' w5 ⟨rfl, hb5⟩
          have F5 := Lib.hid ((F4.out.below hb5).lay #[.int .u64 (hiN ((q + x) / 2)), .int .u64 (loN ((q + x) / 2))] 24)
          clear hb5 F4 HAD HSH HDV
          have F6 := Lib.hid (show Env w _ [(w.heap.size, 24, #[.int .u64 ah, .int .u64 al])] from F5.out.tl.tl.tl.tl)
          generalize (q + x) / 2 = h at *
          by_cases hst : x ≤ h
          · have HRX := Lib.hid (show x = r from Rt.root_eq HR.out (NS.out hst) HX2.out)
            have hcase : 0 < hiN h ∨ (hiN h = 0 ∧ (x : Int) ≤ loN h) := by unfold hiN loN; omega
            clear hst
            rcases hcase with hc | ⟨hc, hc2⟩
            · generalize hiN h = hh at *
              generalize loN h = hlo at *
              go_wp2
              go_ret
              exact ⟨by rw [← HRX.out]; rfl, F6.out.bel⟩
            · rw [hc]
              rw [hc] at F6
              generalize loN h = hlo at *
              clear hc
              go_wp2
              go_ret
              exact ⟨by rw [← HRX.out]; rfl, F6.out.bel⟩
          · have hc : hiN h = 0 := by unfold hiN; omega
            have hc2 : loN h = (h : Int) := by unfold loN; omega
            have hlt : (h : Int) < x := by omega
            have hh0 : 0 < h := by
              rcases Nat.eq_zero_or_pos h with e | e
              · have := NW.out; rw [e] at this; have := HSM.out; omega
              · exact e
            have hh1 : h < 18446744073709551616 := by omega
            rw [hc, hc2]
            rw [hc, hc2] at F6
            clear hc hc2 hst
            go_wp2
            go_roundw
            case rel => exact ⟨h, rfl, hh0, hh1, NW.out, F6.out⟩
            case measure => simp [intOf]; omega
      · go_enter Try.func6, Try.ntmps6
        go_wp2_with fail
        refine (HLEN.out _).mono ?_
        rintro e' w1 ⟨rfl, hb1⟩
        have E1 := Lib.hid (E.out.below hb1)
        clear hb1 E
        have x0 := E1.out.hd.cell 0
        have x1 := E1.out.hd.cell 1
        have p0 := E1.out.hd.lt
        simp at x0 x1
        have HGX := Lib.hid (HG.out 18446744073709551615 (fun h => absurd h hl) (fun _ => rfl))
        generalize Bt.blen a = la at *
        go_wp2_with fail
        clear x0 x1 p0
        have E2 := Lib.hid E1.out
        obtain ⟨s0, s1, s2⟩ := HGX.out
        obtain ⟨xs, hxs⟩ : ∃ xs : Nat, xs = 18446744073709551615 := ⟨_, rfl⟩
        rw [← hxs] at s0 s1 s2
        have hxi : (18446744073709551615 : Int) = (xs : Int) := by omega
        clear hxs
        go_loopw [3] (fun v wr => ∃ x : Nat, v = .int .u64 (x : Int) ∧ 0 < x ∧ x < 18446744073709551616 ∧ a < (x + 1) * (x + 1) ∧ Env w wr [(w.heap.size, 24, #[.int .u64 ah, .int .u64 al])]) (fun v _ => (intOf v).toNat)
        case atStart => exact ⟨xs, by rw [← hxi], s0, s1, s2, E2.out⟩
        case round =>
          obtain ⟨x, rfl, hx0, hx1, hx2, hE⟩ := hrel
          clear hxi
          have F := Lib.hid hE
          have HX2 := Lib.hid hx2
          have hq := Rt.quot_le hx0 hx2
          have NW := Lib.hid (Rt.newton (a := a) hx0)
          have NS := Lib.hid (Rt.newton_stop (a := a) hx0)
          have HDV := Lib.hid (HDIV.out x hx1 hx0)
          clear hE hx2 E2 s0 s1 s2
          have hqx : a / x + x < 2 ^ 128 := by omega
          have HAD := Lib.hid (fun w => add_lo (a / x) x hqx hx1 w)
          have HSH := Lib.hid (fun w => half (a / x + x) hqx w)
          generalize a / x = q at *
          generalize a % x = rr at *
          have c0 := F.out.hd.cell 0
          have c1 := F.out.hd.cell 1
          have p0 := F.out.hd.lt
          simp at c0 c1
          go_wp2_with fail
          refine (HDV.out _).mono ?_
          rintro e' w3 ⟨rfl, hb3⟩
          have F3 := Lib.hid (((F.out.below hb3).lay #[.int .u64 (hiN q), .int .u64 (loN q)] 24).lay #[.int .u64 (hiN rr), .int .u64 (loN rr)] 24)
          clear hb3 c0 c1 p0 F
          go_wp2_with fail
          refine (HAD.out _).mono ?_
          rintro e' w4 ⟨rfl, hb4⟩
          have F4 := Lib.hid ((F3.out.below hb4).lay #[.int .u64 (hiN (q + x)), .int .u64 (loN (q + x))] 24)
          clear hb4 F3
          go_wp2_with fail
          refine (HSH.out _).mono ?_
          rintro e' w5 ⟨rfl, hb5⟩
          have F5 := Lib.hid ((F4.out.below hb5).lay #[.int .u64 (hiN ((q + x) / 2)), .int .u64 (loN ((q + x) / 2))] 24)
          clear hb5 F4 HAD HSH HDV
          have F6 := Lib.hid (show Env w _ [(w.heap.size, 24, #[.int .u64 ah, .int .u64 al])] from F5.out.tl.tl.tl.tl)
          generalize (q + x) / 2 = h at *
          by_cases hst : x ≤ h
          · have HRX := Lib.hid (show x = r from Rt.root_eq HR.out (NS.out hst) HX2.out)
            have hcase : 0 < hiN h ∨ (hiN h = 0 ∧ (x : Int) ≤ loN h) := by unfold hiN loN; omega
            clear hst
            rcases hcase with hc | ⟨hc, hc2⟩
            · generalize hiN h = hh at *
              generalize loN h = hlo at *
              go_wp2
              go_ret
              exact ⟨by rw [← HRX.out]; rfl, F6.out.bel⟩
            · rw [hc]
              rw [hc] at F6
              generalize loN h = hlo at *
              clear hc
              go_wp2
              go_ret
              exact ⟨by rw [← HRX.out]; rfl, F6.out.bel⟩
          · have hc : hiN h = 0 := by unfold hiN; omega
            have hc2 : loN h = (h : Int) := by unfold loN; omega
            have hlt : (h : Int) < x := by omega
            have hh0 : 0 < h := by
              rcases Nat.eq_zero_or_pos h with e | e
              · have := NW.out; rw [e] at this; have := HSM.out; omega
              · exact e
            have hh1 : h < 18446744073709551616 := by omega
            rw [hc, hc2]
            rw [hc, hc2] at F6
            clear hc hc2 hst
            go_wp2
            go_roundw
            case rel => exact ⟨h, rfl, hh0, hh1, NW.out, F6.out⟩
            case measure => simp [intOf]; omega
    · have hgb : (ah == 0) = true := by simp [hg]
      have HG0 := Lib.hid hg
      clear hg
      by_cases hl : Bt.blen a < 127
      · go_enter Try.func6, Try.ntmps6
        go_wp2_with fail
        refine (HLEN.out _).mono ?_
        rintro e' w1 ⟨rfl, hb1⟩
        have E1 := Lib.hid (E.out.below hb1)
        clear hb1 E
        have x0 := E1.out.hd.cell 0
        have x1 := E1.out.hd.cell 1
        have p0 := E1.out.hd.lt
        simp at x0 x1
        have HGX := Lib.hid (HG.out (2 ^ ((Bt.blen a + 1) / 2)) (fun _ => rfl) (fun h => absurd hl h))
        generalize Bt.blen a = la at *
        go_wp2_with fail
        refine (HLEN.out _).mono ?_
        rintro e' w2 ⟨rfl, hb2⟩
        have E2 := Lib.hid (E1.out.below hb2)
        clear hb2 x0 x1 p0
        obtain ⟨s0, s1, s2⟩ := HGX.out
        obtain ⟨xs, hxs⟩ : ∃ xs : Nat, xs = 2 ^ ((la + 1) / 2) := ⟨_, rfl⟩
        rw [← hxs] at s0 s1 s2
        have hh : ((la : Int) + 1) / 2 = (((la + 1) / 2 : Nat) : Int) := by omega
        have hxi : (2 : Int) ^ ((la + 1) / 2) = (xs : Int) := by rw [hxs]; exact (Int.natCast_pow 2 _).symm
        have hlb : (la + 1) / 2 ≤ 63 := by omega
        generalize (la + 1) / 2 = hl2 at *
        go_wp2_with fail
        rw [hh]
        clear hh hxs
        go_wp2_with fail
        go_loopw [3] (fun v wr => ∃ x : Nat, v = .int .u64 (x : Int) ∧ 0 < x ∧ x < 18446744073709551616 ∧ a < (x + 1) * (x + 1) ∧ Env w wr [(w.heap.size, 24, #[.int .u64 ah, .int .u64 al])]) (fun v _ => (intOf v).toNat)
        case atStart => exact ⟨xs, rfl, s0, s1, s2, E2.out⟩
        case round =>
          obtain ⟨x, rfl, hx0, hx1, hx2, hE⟩ := hrel
          have F := Lib.hid hE
          have HX2 := Lib.hid hx2
          have hq := Rt.quot_le hx0 hx2
          have NW := Lib.hid (Rt.newton (a := a) hx0)
          have NS := Lib.hid (Rt.newton_stop (a := a) hx0)
          have HDV := Lib.hid (HDIV.out x hx1 hx0)
          clear hE hx2 E2 s0 s1 s2
          have hqx : a / x + x < 2 ^ 128 := by omega
          have HAD := Lib.hid (fun w => add_lo (a / x) x hqx hx1 w)
          have HSH := Lib.hid (fun w => half (a / x + x) hqx w)
          generalize a / x = q at *
          generalize a % x = rr at *
          have c0 := F.out.hd.cell 0
          have c1 := F.out.hd.cell 1
          have p0 := F.out.hd.lt
          simp at c0 c1
          go_wp2_with fail
          refine (HDV.out _).mono ?_
          rintro e' w3 ⟨rfl, hb3⟩
          have F3 := Lib.hid (((F.out.below hb3).lay #[.int .u64 (hiN q), .int .u64 (loN q)] 24).lay #[.int .u64 (hiN rr), .int .u64 (loN rr)] 24)
          clear hb3 c0 c1 p0 F
          go_wp2_with fail
          refine (HAD.out _).mono ?_
          rintro e' w4 ⟨rfl, hb4⟩
          have F4 := Lib.hid ((F3.out.below hb4).lay #[.int .u64 (hiN (q + x)), .int .u64 (loN (q + x))] 24)
          clear hb4 F3
          go_wp2_with fail
          refine (HSH.out _).mono ?_
          rintro e' w5 ⟨rfl, hb5⟩
          have F5 := Lib.hid ((F4.out.below hb5).lay #[.int .u64 (hiN ((q + x) / 2)), .int .u64 (loN ((q + x) / 2))] 24)
          clear hb5 F4 HAD HSH HDV
          have F6 := Lib.hid (show Env w _ [(w.heap.size, 24, #[.int .u64 ah, .int .u64 al])] from F5.out.tl.tl.tl.tl)
          generalize (q + x) / 2 = h at *
          by_cases hst : x ≤ h
          · have HRX := Lib.hid (show x = r from Rt.root_eq HR.out (NS.out hst) HX2.out)
            have hcase : 0 < hiN h ∨ (hiN h = 0 ∧ (x : Int) ≤ loN h) := by unfold hiN loN; omega
            clear hst
            rcases hcase with hc | ⟨hc, hc2⟩
            · generalize hiN h = hh at *
              generalize loN h = hlo at *
              go_wp2
              go_ret
              exact ⟨by rw [← HRX.out]; rfl, F6.out.bel⟩
            · rw [hc]
              rw [hc] at F6
              generalize loN h = hlo at *
              clear hc
              go_wp2
              go_ret
              exact ⟨by rw [← HRX.out]; rfl, F6.out.bel⟩
          · have hc : hiN h = 0 := by unfold hiN; omega
            have hc2 : loN h = (h : Int) := by unfold loN; omega
            have hlt : (h : Int) < x := by omega
            have hh0 : 0 < h := by
              rcases Nat.eq_zero_or_pos h with e | e
              · have := NW.out; rw [e] at this; have := HSM.out; omega
              · exact e
            have hh1 : h < 18446744073709551616 := by omega
            rw [hc, hc2]
            rw [hc, hc2] at F6
            clear hc hc2 hst
            go_wp2
            go_roundw
            case rel => exact ⟨h, rfl, hh0, hh1, NW.out, F6.out⟩
            case measure => simp [intOf]; omega
      · go_enter Try.func6, Try.ntmps6
        go_wp2_with fail
        refine (HLEN.out _).mono ?_
        rintro e' w1 ⟨rfl, hb1⟩
        have E1 := Lib.hid (E.out.below hb1)
        clear hb1 E
        have x0 := E1.out.hd.cell 0
        have x1 := E1.out.hd.cell 1
        have p0 := E1.out.hd.lt
        simp at x0 x1
        have HGX := Lib.hid (HG.out 18446744073709551615 (fun h => absurd h hl) (fun _ => rfl))
        generalize Bt.blen a = la at *
        go_wp2_with fail
        clear x0 x1 p0
        have E2 := Lib.hid E1.out
        obtain ⟨s0, s1, s2⟩ := HGX.out
        obtain ⟨xs, hxs⟩ : ∃ xs : Nat, xs = 18446744073709551615 := ⟨_, rfl⟩
        rw [← hxs] at s0 s1 s2
        have hxi : (18446744073709551615 : Int) = (xs : Int) := by omega
        clear hxs
        go_loopw [3] (fun v wr => ∃ x : Nat, v = .int .u64 (x : Int) ∧ 0 < x ∧ x < 18446744073709551616 ∧ a < (x + 1) * (x + 1) ∧ Env w wr [(w.heap.size, 24, #[.int .u64 ah, .int .u64 al])]) (fun v _ => (intOf v).toNat)
        case atStart => exact ⟨xs, by rw [← hxi], s0, s1, s2, E2.out⟩
        case round =>
          obtain ⟨x, rfl, hx0, hx1, hx2, hE⟩ := hrel
          clear hxi
          have F := Lib.hid hE
          have HX2 := Lib.hid hx2
          have hq := Rt.quot_le hx0 hx2
          have NW := Lib.hid (Rt.newton (a := a) hx0)
          have NS := Lib.hid (Rt.newton_stop (a := a) hx0)
          have HDV := Lib.hid (HDIV.out x hx1 hx0)
          clear hE hx2 E2 s0 s1 s2
          have hqx : a / x + x < 2 ^ 128 := by omega
          have HAD := Lib.hid (fun w => add_lo (a / x) x hqx hx1 w)
          have HSH := Lib.hid (fun w => half (a / x + x) hqx w)
          generalize a / x = q at *
          generalize a % x = rr at *
          have c0 := F.out.hd.cell 0
          have c1 := F.out.hd.cell 1
          have p0 := F.out.hd.lt
          simp at c0 c1
          go_wp2_with fail
          refine (HDV.out _).mono ?_
          rintro e' w3 ⟨rfl, hb3⟩
          have F3 := Lib.hid (((F.out.below hb3).lay #[.int .u64 (hiN q), .int .u64 (loN q)] 24).lay #[.int .u64 (hiN rr), .int .u64 (loN rr)] 24)
          clear hb3 c0 c1 p0 F
          go_wp2_with fail
          refine (HAD.out _).mono ?_
          rintro e' w4 ⟨rfl, hb4⟩
          have F4 := Lib.hid ((F3.out.below hb4).lay #[.int .u64 (hiN (q + x)), .int .u64 (loN (q + x))] 24)
          clear hb4 F3
          go_wp2_with fail
          refine (HSH.out _).mono ?_
          rintro e' w5 ⟨rfl, hb5⟩
          have F5 := Lib.hid ((F4.out.below hb5).lay #[.int .u64 (hiN ((q + x) / 2)), .int .u64 (loN ((q + x) / 2))] 24)
          clear hb5 F4 HAD HSH HDV
          have F6 := Lib.hid (show Env w _ [(w.heap.size, 24, #[.int .u64 ah, .int .u64 al])] from F5.out.tl.tl.tl.tl)
          generalize (q + x) / 2 = h at *
          by_cases hst : x ≤ h
          · have HRX := Lib.hid (show x = r from Rt.root_eq HR.out (NS.out hst) HX2.out)
            have hcase : 0 < hiN h ∨ (hiN h = 0 ∧ (x : Int) ≤ loN h) := by unfold hiN loN; omega
            clear hst
            rcases hcase with hc | ⟨hc, hc2⟩
            · generalize hiN h = hh at *
              generalize loN h = hlo at *
              go_wp2
              go_ret
              exact ⟨by rw [← HRX.out]; rfl, F6.out.bel⟩
            · rw [hc]
              rw [hc] at F6
              generalize loN h = hlo at *
              clear hc
              go_wp2
              go_ret
              exact ⟨by rw [← HRX.out]; rfl, F6.out.bel⟩
          · have hc : hiN h = 0 := by unfold hiN; omega
            have hc2 : loN h = (h : Int) := by unfold loN; omega
            have hlt : (h : Int) < x := by omega
            have hh0 : 0 < h := by
              rcases Nat.eq_zero_or_pos h with e | e
              · have := NW.out; rw [e] at this; have := HSM.out; omega
              · exact e
            have hh1 : h < 18446744073709551616 := by omega
            rw [hc, hc2]
            rw [hc, hc2] at F6
            clear hc hc2 hst
            go_wp2
            go_roundw
            case rel => exact ⟨h, rfl, hh0, hh1, NW.out, F6.out⟩
            case measure => simp [intOf]; omega
end Go.Proofs.Ytoemnfjodhbbgad
