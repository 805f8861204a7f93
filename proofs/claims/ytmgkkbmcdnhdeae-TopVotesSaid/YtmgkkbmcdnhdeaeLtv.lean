/- The law TopVotes, walked. -/
import Derived.Test.YtmgkkbmcdnhdeaeTopVA
namespace Go.Proofs.Ytmgkkbmcdnhdeae
open Go.RowKit Go.Lib
set_option linter.unusedSimpArgs false
set_option linter.unusedVariables false

set_option maxHeartbeats 4000000 in
set_option maxRecDepth 100000 in
theorem topVotes_walk (A : Option Addr) (c : Nat) (ls : List RowT) (since more k theta : Int) (w : World) (hr : Reads w w.heap.size 1 A ls.length (cellsRw ls)) (hb : ls.length ≤ c ∧ c ≤ maxLen) (ho : ∀ r ∈ ls, RowOk w w.heap.size r) :
    Calls Try.prog 3 #[.slice A ls.length c, .int .i64 since, .int .i64 more, .int .i64 k, .int .i64 theta] w fun e' w' => e' = .returned (.bool true) ∧ Below w.heap.size w w' := by
  obtain ⟨n, hn⟩ : ∃ n, ls.length = n := ⟨_, rfl⟩
  rw [hn] at hr hb ⊢
  obtain ⟨m, hm⟩ : ∃ m, m = Nat.min n 9 := ⟨_, rfl⟩
  have hm1 : m ≤ n := by rw [hm]; exact Nat.min_le_left _ _
  have hm9 : m ≤ 9 := by rw [hm]; exact Nat.min_le_right _ _
  have hmin : min (n : Int) 9 = (m : Int) := by rw [hm]; have : Nat.min n 9 = min n 9 := rfl; rw [this]; omega
  clear hm
  obtain ⟨hc1, hc2⟩ := hb
  obtain ⟨i0, hi, hz0, hz1, hz2⟩ := info_parts int_info
  have HN := Lib.hid hn
  have HR := Lib.hid hr
  have HO := Lib.hid ho
  clear hn hr ho
  go_enter Try.func3, Try.ntmps3
  go_wp2_with fail
  refine (begun_true _).mono ?_
  rintro e' w1 ⟨rfl, hb1⟩
  have B1 := Lib.hid hb1
  clear hb1
  go_wp2_with fail
  refine (kwithin_any since 1048576 (by omega) (by omega) _).mono ?_
  rintro e' w' ⟨rfl, rfl⟩
  go_wp2_with fail
  refine (kwithin_any theta 20 (by omega) (by omega) _).mono ?_
  rintro e' w' ⟨rfl, rfl⟩
  have hs := wthn_bd since (n := 1048576) (by omega)
  have ht := wthn_bd theta (n := 20) (by omega)
  generalize wthn since 1048576 = s at *
  generalize wthn theta 20 = th at *
  obtain ⟨hs0, hs1⟩ := hs
  obtain ⟨ht0, ht1⟩ := ht
  go_wp2_with fail
  go_loopw [43, 11, 12] (fun iv nv lv wr => ∃ (i : Nat) (P : List (Int × Int)), i ≤ m ∧ iv = .int .i64 (i : Int) ∧ P.length = i ∧ LvPairs P ∧ Below w.heap.size w wr ∧ TwoRows w.heap.size wr 3 nv lv i i (cellsI (P.map Prod.fst)) (cellsI (P.map Prod.snd))) (fun iv _ _ _ => m - (intOf iv).toNat)
  case atStart => exact ⟨0, [], by omega, rfl, rfl, LvPairs.nil, B1.out, TwoRows.nil _ _ _⟩
  case round =>
    obtain ⟨i, P, him, rfl, hP, hLP, hB, hT⟩ := hrel
    obtain ⟨wo, rfl⟩ : ∃ wo, wo = wr := ⟨_, rfl⟩
    obtain ⟨An, cn, rfl⟩ := ownsRow_len hT.1
    obtain ⟨Al, cl, rfl⟩ := ownsRow_len hT.2.1
    have B2 := Lib.hid hB
    have T2 := Lib.hid hT
    have HP := Lib.hid hP
    have LP := Lib.hid hLP
    clear hB hT hP hLP
    by_cases hlt : i < m
    · obtain ⟨b, off, rfl, hb, hcells⟩ := (HR.out.below B2.out (Nat.le_refl _)).addr (by omega)
      have hil : i < ls.length := by rw [HN.out]; omega
      have hcell := hcells i _ (cellsRw_at ls i (none, 0, []) hil)
      have HRO := Lib.hid ((HO.out (ls.getD i (none, 0, [])) (by rw [List.getD_eq_getElem?_getD, List.getElem?_eq_getElem hil]; exact List.getElem_mem hil)).below B2.out (Nat.le_refl _))
      clear hcells hil
      generalize ls.getD i (none, 0, []) = row at *
      obtain ⟨Ar, cr, l⟩ := row
      simp only [rowV] at hcell
      obtain ⟨hrr, hcr1, hcr2⟩ := HRO.out
      obtain ⟨q, hq⟩ : ∃ q, l.length = q := ⟨_, rfl⟩
      simp only [hq] at hcell hrr hcr1 hcr2
      have HQ := Lib.hid hq
      have RR := Lib.hid hrr
      clear hq HRO hrr
      obtain ⟨m2, hm2⟩ : ∃ m2, m2 = Nat.min q 7 := ⟨_, rfl⟩
      have hm21 : m2 ≤ q := by rw [hm2]; exact Nat.min_le_left _ _
      have hm22 : m2 ≤ 7 := by rw [hm2]; exact Nat.min_le_right _ _
      have hmin2 : min (q : Int) 7 = (m2 : Int) := by rw [hm2]; have : Nat.min q 7 = min q 7 := rfl; rw [this]; omega
      clear hm2
      go_wp2_with fail
      go_loopw [55] (fun jv wr => ∃ (j : Nat) (V : List Int) (Av : Option Addr) (cv : Nat), j ≤ m2 ∧ jv = .int .i64 (j : Int) ∧ V.length = 1 + j ∧ (∀ x ∈ V, 0 ≤ x ∧ x ≤ 1000) ∧ Below wo.heap.size wo wr ∧ Blk wr (wo.heap.size + 1) 27 #[.int .i64 8, .slice Av (1 + j) cv] ∧ wr.ownsRow wo.heap.size 3 1 (.slice Av (1 + j) cv) (1 + j) (cellsI V)) (fun jv _ => m2 - (intOf jv).toNat)
      case atStart => exact ⟨0, [1], some ⟨wo.heap.size, 0, none⟩, 1, by omega, rfl, rfl, by simp, ((Below.refl _ _).alloc (Nat.le_refl _) _).alloc (by simp) _, by simpa using Blk.new (wo.alloc (.cells #[.int .i64 1] 3)) _ _, (World.ownsRow.alloc ⟨rfl, .inr ⟨wo.heap.size, 1, #[.int .i64 1], rfl, Nat.le_refl _, Blk.new wo _ _, Nat.le_refl _, by unfold maxLen; omega, rfl, rfl⟩⟩ _)⟩
      case round =>
        obtain ⟨j, V, Av, cv, hj, rfl, hVl, hVb, hBq, hKq, hWq⟩ := hrel
        by_cases hlt2 : j < m2
        · obtain ⟨gb, go, rfl, hgb, hgc⟩ := (RR.out.below hBq B2.out.size).addr (by omega)
          have hcell2 := hgc j _ (cellsI_at l j (by rw [HQ.out]; omega))
          have a1 := hKq.cell 1
          have f1 := hKq.frozen 1
          have p1 := hKq.lt
          have hHB : wo.heap.size ≤ wr.heap.size := hBq.size
          have BQ := Lib.hid hBq
          have KQ := Lib.hid hKq
          have WQ := Lib.hid hWq
          have VL := Lib.hid hVl
          have VB := Lib.hid hVb
          clear hgc hBq hKq hWq hVl hVb
          simp at a1
          generalize l.getD j 0 = x at *
          go_wp2_with fail
          have hbd := wthn_bd x (n := 1000) (by omega)
          have HX := Lib.hid (fun w => kwithin_any x 1000 (by omega) (by omega) w)
          generalize wthn x 1000 = y at *
          have HBD := Lib.hid hbd
          clear hbd
          go_region_law (first
            | (go_simp; go_at_call 5; refine (HX.out _).mono ?_; rintro e' w' ⟨rfl, rfl⟩)
            | (refine step_appX (by rfl) _ _ _ (by rfl) wo.heap.size 3 i0 (.int .i64 0) 1 8 Try.underlying25 hi hz0 hz1 hz2 rfl (by decide) _ _ _ (by rfl) (WQ.out.alloc _).drew _ _ 1 _ _ (by rfl) (Reads.drew (reads_blk (T := [y]) (Blk.new wr _ _) rfl)) (oneCell_ints [y]) ?_ ?_ ?_ ?_; (unfold maxLen; omega); omega; (simp; omega); intro v9 w9 hown9 hg9 ho9; obtain ⟨A9, c9, rfl⟩ := ownsRow_len hown9; have hk9 := blk_row KQ.out WQ.out (by decide) hg9; have b9 := hk9.cell 1; have g9 := hk9.frozen 1; simp at b9))
          go_wp2_with fail
          all_goals exact ⟨⟨j + 1, V ++ [y], A9, c9, by omega, by simp, by simp [VL.out]; omega, fun z hz => by
            have hbd := HBD.out
            rcases List.mem_append.1 hz with hz | hz
            · exact VB.out z hz
            · obtain rfl := List.mem_singleton.1 hz
              exact ⟨hbd.1, Int.le_of_lt hbd.2⟩,
            (((BQ.out.alloc hHB _).drew).grown hg9 (by simp; omega) (fun k hk => (WQ.out.lt k hk).1)).setCell (by simp) _,
            by rw [← Nat.add_assoc]; simpa using hk9.set_ 1 (.slice A9 (1 + j + 1) c9),
            by rw [← Nat.add_assoc]; simpa [cellsI] using ownsRow_setCell_other hown9 (a := ⟨wo.heap.size + 1, 1, none⟩) (ownBlock_ne hown9 hk9 (by decide)) (.slice A9 (1 + j + 1) c9)⟩, by simp [intOf]; omega⟩
        · obtain rfl : j = m2 := by omega
          obtain ⟨f, hfm, hfb, hof⟩ := lof83 (1 + j) hVl (by omega) (by omega) hVb
          have FM := Lib.hid hfm
          have FB := Lib.hid hfb
          have OF := Lib.hid hof
          have a0 := hKq.cell 0
          have a1 := hKq.cell 1
          have p1 := hKq.lt
          have hHB : wo.heap.size ≤ wr.heap.size := hBq.size
          have BQ := Lib.hid hBq
          have KQ := Lib.hid hKq
          have hcap := ownsRow_cap hWq
          have RQ := Lib.hid (Reads.of_own hWq)
          clear hBq hKq hWq hVl hVb hfm hfb hof
          simp at a0 a1
          go_wp2_with fail
          refine (OF.out s _ cv wr.heap.size _ hs0 (by omega) hcap.1 hcap.2 RQ.out (Nat.le_refl _)).mono ?_
          rintro e' w3 ⟨rfl, hb3⟩
          have K3 := Lib.hid (KQ.out.below hb3 KQ.out.lt)
          have R3 := Lib.hid ((RQ.out.below hb3 (Nat.le_refl _)).more hb3.size)
          have B3 := Lib.hid (BQ.out.trans (hb3.mono hHB))
          clear hb3 a0 a1
          have a0 := K3.out.cell 0
          have a1 := K3.out.cell 1
          simp at a0 a1
          have hbd := wthn_bd more (n := 1048576) (by omega)
          have HW := Lib.hid (fun w => kwithin_any more 1048576 (by omega) (by omega) w)
          generalize wthn more 1048576 = r at *
          obtain ⟨hr0, hr1⟩ := hbd
          have hwr : IntKind.i64.wrap (s + r) = s + r := by rw [IntKind.wrap_i64]; omega
          have HOF := Lib.hid (show ∀ w', Below w3.heap.size w3 w' → Calls Try.prog 6 #[.agg #[.int .i64 8, .slice Av (1 + j) cv], .int .i64 3, .int .i64 (IntKind.i64.wrap (s + r))] w' fun e' w'' => e' = .returned (.tuple #[.int .i64 (f (s + r) : Nat), .int .i64 0]) ∧ Below w'.heap.size w' w'' from fun w' h => by
            rw [hwr]
            exact OF.out (s + r) _ cv w3.heap.size w' (by omega) (by omega) hcap.1 hcap.2 (R3.out.below h (Nat.le_refl _)) h.size)
          clear hwr
          have HS := Lib.hid (show ∀ w', Below w3.heap.size w3 w' → (Below w3.heap.size w3 w' ∧ w'.cell? ⟨wo.heap.size + 1, 0, none⟩ = some (.int .i64 8) ∧ w'.cell? ⟨wo.heap.size + 1, 1, none⟩ = some (.slice Av (1 + j) cv)) from fun w' h => by
            have k0 := (K3.out.below h K3.out.lt).cell 0
            have k1 := (K3.out.below h K3.out.lt).cell 1
            simp at k0 k1
            exact ⟨h, k0, k1⟩)
          go_wp2_with fail
          go_region_held3 (fun w' => Below w3.heap.size w3 w' ∧ w'.cell? ⟨wo.heap.size + 1, 0, none⟩ = some (.int .i64 8) ∧ w'.cell? ⟨wo.heap.size + 1, 1, none⟩ = some (.slice Av (1 + j) cv))
            ((refine HS.out _ ?_; repeat (first | (with_reducible exact hL4) | (with_reducible exact Below.refl _ _) | (with_reducible refine Below.drew ?_))))
            (first
              | (go_at_call 5; (with_reducible refine (HW.out _).mono ?_); rintro e' w' ⟨rfl, rfl⟩)
              | (go_at_call 6; (with_reducible refine (HOF.out _ ?hb).mono ?_); (case hb => repeat (first | (with_reducible exact Below.refl _ _) | (with_reducible refine Below.drew ?_))); rintro e' w4 ⟨rfl, hb4⟩; have hL4 : Below w3.heap.size w3 w4 := Below.thru3 (by repeat (first | (with_reducible exact Below.refl _ _) | (with_reducible refine Below.drew ?_))) hb4))
          all_goals
            rename_i hheld
            have B4 := Lib.hid (B3.out.trans (hheld.1.mono B3.out.size))
            have T4 := Lib.hid (T2.out.below B4.out)
            have hfm := FM.out s (s + r) (by omega)
            have hfb := FB.out (s + r) (by omega) (by omega)
            clear hheld K3 R3 HS HOF B3 OF FM FB KQ BQ RQ a0 a1
            generalize f s = x1 at *
            generalize f (s + r) = x2 at *
            go_wp2_with (at_builtin; refine wpList_append_any _ rfl _ _ 25 rfl w.heap.size 3 i0 (.int .i64 0) 1 8 Try.underlying25 hi hz0 hz1 hz2 rfl (by decide) _ _ _ rfl (T4.out.1.alloc _) _ _ 1 _ _ rfl (reads_blk (T := [(x1 : Int)]) (Blk.new w4 _ _) rfl) (oneCell_ints [(x1 : Int)]) ?c1 ?c2 ?c3 ?_)
            case c1 => unfold maxLen; omega
            case c2 => omega
            case c3 => have := B4.out.size; have := B2.out.size; simp; omega
            intro v5 w5 ho5 hg5 hn5
            have T5 := Lib.hid ((T4.out.alloc _).app ho5 hg5 (by simpa using hn5)).swap
            have BW := Lib.hid (B2.out.trans (B4.out.mono B2.out.size))
            have B5 := Lib.hid ((BW.out.alloc BW.out.size _).grown hg5 (by have := BW.out.size; simp; omega) (fun k hk => (T4.out.1.lt k hk).1))
            obtain ⟨A5, c5, rfl⟩ := ownsRow_len ho5
            clear ho5 hg5 hn5 T4 T2 B4
            go_wp2_with (at_builtin; refine wpList_append_any _ rfl _ _ 25 rfl w.heap.size 3 i0 (.int .i64 0) 1 8 Try.underlying25 hi hz0 hz1 hz2 rfl (by decide) _ _ _ rfl (T5.out.1.alloc _) _ _ 1 _ _ rfl (reads_blk (T := [(x2 : Int)]) (Blk.new w5 _ _) rfl) (oneCell_ints [(x2 : Int)]) ?c1 ?c2 ?c3 ?_)
            case c1 => unfold maxLen; omega
            case c2 => omega
            case c3 => have := B5.out.size; simp; omega
            intro v6 w6 ho6 hg6 hn6
            have T6 := Lib.hid ((T5.out.alloc _).app ho6 hg6 (by simpa using hn6)).swap
            have B6 := Lib.hid ((B5.out.alloc B5.out.size _).grown hg6 (by have := B5.out.size; simp; omega) (fun k hk => (T5.out.1.lt k hk).1))
            obtain ⟨A6, c6, rfl⟩ := ownsRow_len ho6
            clear ho6 hg6 hn6 T5 B5
            go_wp2_with fail
            exact ⟨⟨i + 1, P ++ [((x1 : Int), (x2 : Int))], by omega, by simp, by simp [HP.out], LP.out.snoc (by omega) (by omega) (by omega), B6.out, by simpa [cellsI] using T6.out⟩, by simp [intOf]; omega⟩
    · obtain rfl : i = m := by omega
      by_cases hm0 : i = 0
      · subst hm0
        go_wp2
        go_ret
        exact ⟨rfl, B2.out⟩
      have hne : ((i : Int) == 0) = false := by simp; omega
      have hkb := wthn_bd k (n := (i : Int)) (by omega)
      have HK := Lib.hid (fun w => kwithin_any k (i : Int) (by omega) (by omega) w)
      obtain ⟨r0, hr0⟩ : ∃ r0 : Nat, wthn k (i : Int) = (r0 : Int) := ⟨(wthn k (i : Int)).toNat, by omega⟩
      rw [hr0] at HK hkb
      clear hr0
      obtain ⟨hk0, hk1⟩ := hkb
      obtain ⟨TN, hTN⟩ : ∃ T, So.IsSort (P.map Prod.fst) T := ⟨_, So.srt_is _⟩
      obtain ⟨TL, hTL⟩ : ∃ T, So.IsSort (P.map Prod.snd) T := ⟨_, So.srt_is _⟩
      have hcx := geV_place hTN (1 + th) (1 + r0) i (by simp [HP.out]) (by omega) (by omega)
      have hcy := geV_place hTL (1 + th) (1 + r0) i (by simp [HP.out]) (by omega) (by omega)
      have hxy := lv_kth LP.out hTN hTL (1 + r0) i HP.out (by omega) (by omega)
      have hv1 := lv_vote1 LP.out (by rw [HP.out]; exact hm9)
      have hv2 := lv_vote2 LP.out (by rw [HP.out]; exact hm9)
      have ecast : ((1 + r0 : Nat) : Int) = 1 + (r0 : Int) := by omega
      have R1 := Lib.hid (Reads.of_own T2.out.1)
      have R2 := Lib.hid (Reads.of_own T2.out.2.1)
      obtain ⟨x, hx⟩ : ∃ x, TN.getD (i - (1 + r0)) 0 = x := ⟨_, rfl⟩
      obtain ⟨y, hy⟩ : ∃ y, TL.getD (i - (1 + r0)) 0 = y := ⟨_, rfl⟩
      rw [hx] at hcx hxy
      rw [hy] at hcy hxy
      rw [ecast] at hcx hcy
      have S1 := Lib.hid (show ∀ w', Below wo.heap.size wo w' → Calls Try.prog 7 #[.slice An i cn, .int .i64 (1 + (r0 : Int)), .int .i64 (1 + th)] w' fun e' w'' => e' = .returned (.tuple #[.bool (decide (1 + th ≤ x)), .int .i64 0]) ∧ w' = w'' from fun w' h => by
        have := some_ok An cn wo.heap.size i (P.map Prod.fst) (1 + (r0 : Int)) (1 + th) (by simp [HP.out]) hv1 (by omega) (by omega) (by omega) (by omega) (by unfold maxLen; omega) w' (R1.out.below h (Nat.le_refl _))
        rwa [decide_eq_decide.2 hcx] at this)
      have S2 := Lib.hid (show ∀ w', Below wo.heap.size wo w' → Calls Try.prog 7 #[.slice Al i cl, .int .i64 (1 + (r0 : Int)), .int .i64 (1 + th)] w' fun e' w'' => e' = .returned (.tuple #[.bool (decide (1 + th ≤ y)), .int .i64 0]) ∧ w' = w'' from fun w' h => by
        have := some_ok Al cl wo.heap.size i (P.map Prod.snd) (1 + (r0 : Int)) (1 + th) (by simp [HP.out]) hv2 (by omega) (by omega) (by omega) (by omega) (by unfold maxLen; omega) w' (R2.out.below h (Nat.le_refl _))
        rwa [decide_eq_decide.2 hcy] at this)
      have V1 := Lib.hid (show ∀ w', Below wo.heap.size wo w' → Calls Try.prog 8 #[.slice An i cn, .int .i64 (1 + (r0 : Int))] w' fun e' w'' => e' = .returned (.tuple #[.int .i64 x, .int .i64 0]) ∧ Below w'.heap.size w' w'' from fun w' h => by
        have := vlevel_ok An cn wo.heap.size i (1 + r0) (P.map Prod.fst) TN hTN (by simp [HP.out]) hv1 (by omega) (by omega) (by unfold maxLen; omega) w' (R1.out.below h (Nat.le_refl _)) h.size
        rwa [hx, ecast] at this)
      have V2 := Lib.hid (show ∀ w', Below wo.heap.size wo w' → Calls Try.prog 8 #[.slice Al i cl, .int .i64 (1 + (r0 : Int))] w' fun e' w'' => e' = .returned (.tuple #[.int .i64 y, .int .i64 0]) ∧ Below w'.heap.size w' w'' from fun w' h => by
        have := vlevel_ok Al cl wo.heap.size i (1 + r0) (P.map Prod.snd) TL hTL (by simp [HP.out]) hv2 (by omega) (by omega) (by unfold maxLen; omega) w' (R2.out.below h (Nat.le_refl _)) h.size
        rwa [hy, ecast] at this)
      clear hcx hcy hv1 hv2 ecast hx hy hTN hTL R1 R2 T2 LP HP
      go_wp2_with fail
      refine (HK.out _).mono ?_
      rintro e' w' ⟨rfl, rfl⟩
      go_wp2_with fail
      refine (S1.out _ (Below.refl _ _)).mono ?_
      rintro e' w' ⟨rfl, rfl⟩
      go_wp2_with fail
      refine (S2.out _ (Below.refl _ _)).mono ?_
      rintro e' w' ⟨rfl, rfl⟩
      go_wp2_with fail
      refine (V1.out _ (Below.refl _ _)).mono ?_
      rintro e' w5 ⟨rfl, hb5⟩
      have B5 := Lib.hid hb5
      clear hb5
      go_wp2_with fail
      refine (V2.out _ B5.out).mono ?_
      rintro e' w6 ⟨rfl, hb6⟩
      have B6 := Lib.hid (B2.out.trans ((Below.thru3 B5.out hb6).mono B2.out.size))
      clear hb6 B5 B2
      by_cases h1 : 1 + th ≤ x
      · have h2 : 1 + th ≤ y := by omega
        simp only [h1, h2]
        go_wp2
        all_goals first
          | (exfalso; omega)
          | (go_ret; exact ⟨rfl, B6.out⟩)
      · by_cases h2 : 1 + th ≤ y
        · simp only [h1, h2]
          go_wp2
          all_goals first
            | (exfalso; omega)
            | (go_ret; exact ⟨rfl, B6.out⟩)
        · simp only [h1, h2]
          go_wp2
          all_goals first
            | (exfalso; omega)
            | (go_ret; exact ⟨rfl, B6.out⟩)

end Go.Proofs.Ytmgkkbmcdnhdeae
