/- The law TownPlays, walked. -/
import Derived.Test.YtcikljcjhijjdabGreatM52
import Derived.BigQuiet
import Derived.Deep.QuietTactic
import Derived.Deep.DeepCutAuto
import Derived.Deep.CutBlock
namespace Go.Proofs.YtcikljcjhijjdabGreat
open Go.RowKit Go.Lib
set_option linter.unusedSimpArgs false
set_option linter.unusedVariables false

def cT : CfgD := (⟨#[97]⟩, 0, 5, 1, 1)
theorem cT_te : newTE [cT] = 0 := by decide
theorem cT_e1 : (TSt.start [cT]).stopE 0 = 0 := by decide
theorem cT_e2 : ((TSt.start [cT]).stopped 0).stopE 0 = 4 := by decide

def TwOne (w : World) (tb : Nat) (t : TSt) (W' : World) : Prop := ∃ F w1, Below w.heap.size w w1 ∧ Col w1 W' F ∧ TwAt F W' tb t
theorem tnew_one (w : World) : Calls Tryz.prog 4 #[.slice (some ⟨w.heap.size, 0, none⟩) 1 1] (w.alloc (.cells #[.string ⟨#[97]⟩, .int .i64 0, .int .i64 5, .int .i64 1, .int .i64 1] 30)) fun e W' => ∃ tb, e = .returned (.tuple #[.pointer (some ⟨tb, 0, none⟩), .int .i64 0]) ∧ TwOne w tb (TSt.start [cT]) W' := by
  have hB := Blk.new w 30 #[.string ⟨#[97]⟩, .int .i64 0, .int .i64 5, .int .i64 1, .int .i64 1]
  have hr : Reads (w.alloc (.cells #[.string ⟨#[97]⟩, .int .i64 0, .int .i64 5, .int .i64 1, .int .i64 1] 30)) (w.alloc (.cells #[.string ⟨#[97]⟩, .int .i64 0, .int .i64 5, .int .i64 1, .int .i64 1] 30)).heap.size 5 (some ⟨w.heap.size, 0, none⟩) [cT].length (cellsCf [cT]) := ⟨rfl, fun _ => ⟨_, rfl, hB.lt, fun j v hj => by
    have hj5 : j < 5 := (List.getElem?_eq_some_iff.1 hj).1
    rcases j with _ | _ | _ | _ | _ | j
    · cases hj; exact hB.cell 0
    · cases hj; exact hB.cell 1
    · cases hj; exact hB.cell 2
    · cases hj; exact hB.cell 3
    · cases hj; exact hB.cell 4
    · omega⟩⟩
  refine (tnew_any (some ⟨w.heap.size, 0, none⟩) 1 [cT] (by intro c hc; rcases List.mem_singleton.1 hc with rfl; decide) _ hr).mono ?_
  rintro e W' (⟨-, tb, k1, F, k2, -, k3⟩ | ⟨hn, -⟩)
  · exact ⟨tb, k1, F, _, (Below.refl _ _).alloc (Nat.le_refl _) _, k2, k3⟩
  · exact absurd cT_te hn
theorem tstop_one {w W : World} {tb : Nat} {t : TSt} (h : TwOne w tb t W) : Calls Tryz.prog 5 #[.pointer (some ⟨tb, 0, none⟩), .int .i64 0] W fun e W' => e = .returned (.int .i64 (t.stopE 0)) ∧ TwOne w tb (t.stopped 0) W' := by
  obtain ⟨F, w1, hb, hC, _, _, _, _, _, _, k⟩ := h
  exact (tstop_any k hC 0).mono fun e W' ⟨k1, F', k2, k3, k4⟩ => ⟨k1, F', w1, hb, k2, k4⟩
theorem TwTo.bel {w W W' : World} {tb : Nat} {t : TSt} {F : Nat → Nat} (h : TwTo W F w tb t W') : Below W.heap.size W W' := by
  obtain ⟨F', k1, -⟩ := h
  exact k1.bel
theorem reads_up {W W' : World} {size n : Nat} {A : Option Addr} {xs : List Value} (h : Reads W W.heap.size size A n xs) (hb : Below W.heap.size W W') : Reads W' W'.heap.size size A n xs :=
  ⟨h.1, fun hn => by
    obtain ⟨ad, e, hb', hc⟩ := (h.below hb (Nat.le_refl _)).2 hn
    exact ⟨ad, e, Nat.lt_of_lt_of_le hb' hb.size, hc⟩⟩
theorem joined_live {t : TSt} {k : Nat} (hk : k < t.L.length) (hl : t.lives (k : Int) = true) (id : ByteArray) (th : Int) :
    t.joined (k : Int) id th = t.node k ((t.L[k]'hk).1.joined id th) ∧ t.joinN (k : Int) id th = (t.L[k]'hk).1.joinN id th ∧ t.joinE (k : Int) id th = (t.L[k]'hk).1.joinE id th := by
  refine ⟨?_, ?_, ?_⟩
  · unfold TSt.joined; rw [if_pos hl, TSt.at_is hk]; rfl
  · unfold TSt.joinN; rw [if_pos hl, TSt.at_is hk]
  · unfold TSt.joinE; rw [if_pos hl, TSt.at_is hk]
theorem joined_dead {t : TSt} {i : Int} (hl : t.lives i = false) (id : ByteArray) (th : Int) : t.joined i id th = t ∧ t.joinN i id th = [] ∧ t.joinE i id th = 4 := by
  refine ⟨?_, ?_, ?_⟩
  · unfold TSt.joined; rw [if_neg (by simp [hl])]
  · unfold TSt.joinN; rw [if_neg (by simp [hl])]
  · unfold TSt.joinE; rw [if_neg (by simp [hl])]
theorem TwOne.bel {w W : World} {tb : Nat} {t : TSt} (h : TwOne w tb t W) : Below w.heap.size w W := by
  obtain ⟨F, w1, hb, hC, -⟩ := h
  exact Below.thru5 hb hC.bel

set_option maxHeartbeats 4000000 in
set_option maxRecDepth 100000 in
theorem townPlays_walk (A0 : Option Addr) (c0 : Nat) (l0 : List CfgD) (A1 : Option Addr) (c1 : Nat) (l1 : List RowT) (A2 : Option Addr) (c2 : Nat) (l2 : List ByteArray) (w : World)
    (r0 : Reads w w.heap.size 5 A0 l0.length (cellsCf l0)) (b0 : l0.length ≤ c0 ∧ c0 ≤ maxLen) (o0 : ∀ c ∈ l0, c.1.size ≤ maxLen)
    (r1 : Reads w w.heap.size 1 A1 l1.length (cellsRw l1)) (b1 : l1.length ≤ c1 ∧ c1 ≤ maxLen) (o1 : ∀ r ∈ l1, RowOk w w.heap.size r) (r2 : Reads w w.heap.size 1 A2 l2.length (cellsTx l2)) (b2 : l2.length ≤ c2 ∧ c2 ≤ maxLen) (o2 : ∀ s ∈ l2, s.size ≤ maxLen) :
    Calls Tryz.prog 3 #[.slice A0 l0.length c0, .slice A1 l1.length c1, .slice A2 l2.length c2] w fun e w' => e = .returned (.bool true) ∧ Below w.heap.size w w' := by
  have R0 := Lib.hid r0
  have R1 := Lib.hid r1
  have R2 := Lib.hid r2
  have B0 := Lib.hid b0
  have O0 := Lib.hid o0
  have O1s := Lib.hid o1
  obtain ⟨b11, b12⟩ := b1
  obtain ⟨b21, b22⟩ := b2
  unfold maxLen at b12 b22
  clear r0 r1 r2 b0 o0 o1 o2
  go_enter Tryz.func3, Tryz.ntmps3
  go_wp2_with fail
  refine (tnew_one w).mono ?_
  rintro e' w1 ⟨tx, rfl, h1⟩
  have X1 := Lib.hid h1
  clear h1
  go_wp2_with fail
  refine (tstop_one X1.out).mono ?_
  rintro e' w2 ⟨rfl, h2⟩
  rw [cT_e1]
  have X2 := Lib.hid h2
  clear h2
  go_wp2_with fail
  refine (tstop_one X2.out).mono ?_
  rintro e' w3 ⟨rfl, h3⟩
  rw [cT_e2]
  have HB3 := Lib.hid h3.bel
  clear h3 X1 X2
  go_wp2_with fail
  by_cases hte : newTE l0 = 0
  · have HTE := Lib.hid hte
    clear hte
    refine (tnew_any A0 c0 l0 O0.out _ (reads_up R0.out HB3.out)).mono ?_
    rintro e' w4 (⟨-, tb, rfl, h4⟩ | ⟨hn, -⟩)
    · have T4 := Lib.hid h4
      have HB4 := Lib.hid (Below.thru5 HB3.out h4.bel)
      clear h4
      go_wp2_with fail
      refine (rtnew_any A0 c0 l0 B0.out O0.out _ (reads_up R0.out HB4.out)).mono ?_
      rintro e' w5 (⟨-, tb2, rfl, h5⟩ | ⟨hn, -⟩)
      · obtain ⟨k5, kg⟩ := newTE_good HTE.out
        have REL := Lib.hid (TQ.start HB3.out (TGood.start k5 kg) T4.out h5)
        clear k5 kg h5 T4 HB3 HB4 HTE R0 B0 O0
        go_wp2_with fail
        go_loopw [70] (fun iv wr => ∃ j : Nat, j ≤ l1.length ∧ iv = .int .i64 (j : Int) ∧ TPRel w tb tb2 wr) (fun iv _ => l1.length - (RowKit.intOf iv).toNat)
        case atStart => exact ⟨0, by omega, rfl, REL.out⟩
        case round =>
          obtain ⟨j, hj, rfl, t, F, hq⟩ := hrel
          have P0 := Lib.hid hq
          have HB0 := Lib.hid hq.col.bel
          clear hq REL
          by_cases hlt : j < l1.length
          · obtain ⟨bb, off, rfl, hbb, hcs⟩ := (R1.out.below HB0.out (Nat.le_refl _)).addr (by omega)
            have hck := hcs j (rowV (l1[j]'hlt)) (by simp [cellsRw, hlt])
            have hrow := O1s.out _ (List.getElem_mem hlt)
            have hbbo : bb < wr.heap.size := Nat.lt_of_lt_of_le hbb HB0.out.size
            generalize l1[j]'hlt = rw1 at *
            obtain ⟨Ak, ck, lk⟩ := rw1
            obtain ⟨hra, hrb, hrc⟩ := hrow
            simp only [rowV] at hck hra hrb hrc
            unfold maxLen at hrc
            have AT0 := Lib.hid (show ∀ W, Below w.heap.size w W → Calls Tryz.prog 7 #[.slice Ak lk.length ck, .int .i64 0] W fun e w' => e = .returned (.int .i64 (atZ lk 0)) ∧ Below W.heap.size W w' from fun W hb => at_any Ak ck w.heap.size lk.length 0 lk rfl (by decide) W (hra.below hb (Nat.le_refl _)))
            have AT1 := Lib.hid (show ∀ W, Below w.heap.size w W → Calls Tryz.prog 7 #[.slice Ak lk.length ck, .int .i64 1] W fun e w' => e = .returned (.int .i64 (atZ lk 1)) ∧ Below W.heap.size W w' from fun W hb => at_any Ak ck w.heap.size lk.length 1 lk rfl (by decide) W (hra.below hb (Nat.le_refl _)))
            have AT2 := Lib.hid (show ∀ W, Below w.heap.size w W → Calls Tryz.prog 7 #[.slice Ak lk.length ck, .int .i64 2] W fun e w' => e = .returned (.int .i64 (atZ lk 2)) ∧ Below W.heap.size W w' from fun W hb => at_any Ak ck w.heap.size lk.length 2 lk rfl (by decide) W (hra.below hb (Nat.le_refl _)))
            have AT3 := Lib.hid (show ∀ W, Below w.heap.size w W → Calls Tryz.prog 7 #[.slice Ak lk.length ck, .int .i64 3] W fun e w' => e = .returned (.int .i64 (atZ lk 3)) ∧ Below W.heap.size W w' from fun W hb => at_any Ak ck w.heap.size lk.length 3 lk rfl (by decide) W (hra.below hb (Nat.le_refl _)))
            have PI := Lib.hid (show ∀ W i, Below w.heap.size w W → Calls Tryz.prog 8 #[.slice A2 l2.length c2, .int .i64 i] W fun e w' => e = .returned (.string (pickT l2 i)) ∧ Below W.heap.size W w' from fun W i hb => pick_any A2 c2 w.heap.size l2.length i l2 rfl (by omega) W (R2.out.below hb (Nat.le_refl _)))
            clear hcs hra hrb hrc
            go_wp2_with fail
            refine (AT1.out _ P0.out.col.bel).mono ?_
            rintro e' w6 ⟨rfl, hb6⟩
            have P6 := Lib.hid (P0.out.below hb6)
            clear hb6 hck
            go_wp2_with fail
            refine (AT2.out _ P6.out.col.bel).mono ?_
            rintro e' w7 ⟨rfl, hb7⟩
            have P7 := Lib.hid (P6.out.below hb7)
            clear hb7
            go_wp2_with fail
            refine (AT3.out _ P7.out.col.bel).mono ?_
            rintro e' w8 ⟨rfl, hb8⟩
            have P8 := Lib.hid (P7.out.below hb8)
            clear hb8
            go_wp2_with fail
            refine (PI.out _ _ P8.out.col.bel).mono ?_
            rintro e' w9 ⟨rfl, hb9⟩
            have P9 := Lib.hid (P8.out.below hb9)
            clear hb9
            generalize pickT l2 (atZ lk 3) = id at *
            go_wp2_with fail
            refine (AT0.out _ P9.out.col.bel).mono ?_
            rintro e' w10 ⟨rfl, hb10⟩
            have P10 := Lib.hid (P9.out.below hb10)
            clear hb10
            generalize atZ lk 0 = op at *
            generalize atZ lk 1 = aa at *
            generalize atZ lk 2 = bz at *
            clear AT1 AT2 AT3 P0 P6 P7 P8 P9 PI
            go_upto_block 2 with fail
            go_cut [18, 19, 20, 21] (fun s18 s19 s20 s21 wx => TOp w tb tb2 s18 s19 s20 s21 wx)
            case first =>
              by_cases h1 : op = 1
              · subst h1
                as_aux_lemma =>
                  go_wp2_with fail
                  refine (P10.out.tick aa).mono ?_
                  rintro e' w11 ⟨B1, d1, rfl, ho1, hto⟩
                  obtain ⟨F1, m1, q1⟩ := P10.out.p hto (P10.out.g1.ticked aa)
                  have PA := Lib.hid q1
                  have OA := Lib.hid ho1
                  have MA := Lib.hid m1
                  clear hto q1 ho1 m1
                  go_wp2_with fail
                  refine (PA.out.rtick aa).mono ?_
                  rintro e' w12 ⟨B2, d2, rfl, ho2, hto2⟩
                  obtain ⟨F2, m2, q2⟩ := PA.out.r hto2 (P10.out.g1.ticked aa)
                  have OK := Lib.hid (show TOp w tb tb2 (.int .i64 (t.tickE aa)) (.int .i64 (t.tickE aa)) (.slice B1 (t.tickN aa).length d1) (.slice B2 (t.tickN aa).length d2) w12 from TOp.notes (Nat.le_trans (tickN_le P10.out.g1 aa) (by decide)) OA.out MA.out m2 ho2 q2)
                  clear hto2 m2 ho2 q2
                  go_wp2_with fail
                  go_meet
                  exact OK.out
              by_cases h2 : op = 2
              · subst h2
                as_aux_lemma =>
                  go_wp2_with fail
                  refine (P10.out.bring aa bz).mono ?_
                  rintro e' w11 ⟨B1, d1, rfl, ho1, hto⟩
                  obtain ⟨F1, m1, q1⟩ := P10.out.p hto (P10.out.g1.brought aa bz)
                  have PA := Lib.hid q1
                  have OA := Lib.hid ho1
                  have MA := Lib.hid m1
                  clear hto q1 ho1 m1
                  go_wp2_with fail
                  refine (PA.out.rbring aa bz).mono ?_
                  rintro e' w12 ⟨B2, d2, rfl, ho2, hto2⟩
                  obtain ⟨F2, m2, q2⟩ := PA.out.r hto2 (P10.out.g1.brought aa bz)
                  have OK := Lib.hid (show TOp w tb tb2 (.int .i64 (t.bringE aa bz)) (.int .i64 (t.bringE aa bz)) (.slice B1 (t.bringN aa bz).length d1) (.slice B2 (t.bringN aa bz).length d2) w12 from TOp.notes (bringN_le P10.out.g1 aa bz) OA.out MA.out m2 ho2 q2)
                  clear hto2 m2 ho2 q2
                  go_wp2_with fail
                  go_meet
                  exact OK.out
              by_cases h3 : op = 3
              · subst h3
                as_aux_lemma =>
                  go_wp2_with fail
                  refine (P10.out.lose aa).mono ?_
                  rintro e' w11 ⟨rfl, hto⟩
                  obtain ⟨F1, m1, q1⟩ := P10.out.p hto (P10.out.g1.lost aa)
                  have PA := Lib.hid q1
                  clear hto q1 m1
                  go_wp2_with fail
                  refine (PA.out.rlose aa).mono ?_
                  rintro e' w12 ⟨rfl, hto2⟩
                  obtain ⟨F2, m2, q2⟩ := PA.out.r hto2 (P10.out.g1.lost aa)
                  have OK := Lib.hid (show TOp w tb tb2 (.int .i64 (t.loseE aa)) (.int .i64 (t.loseE aa)) (.slice none 0 0) (.slice none 0 0) w12 from TOp.err q2)
                  clear hto2 m2 q2
                  go_wp2_with fail
                  go_meet
                  exact OK.out
              by_cases h4 : op = 4
              · subst h4
                as_aux_lemma =>
                  go_wp2_with fail
                  refine (P10.out.stop aa).mono ?_
                  rintro e' w11 ⟨rfl, hto⟩
                  obtain ⟨F1, m1, q1⟩ := P10.out.p hto (P10.out.g1.stopped aa)
                  have PA := Lib.hid q1
                  clear hto q1 m1
                  go_wp2_with fail
                  refine (PA.out.rstop aa).mono ?_
                  rintro e' w12 ⟨rfl, hto2⟩
                  obtain ⟨F2, m2, q2⟩ := PA.out.r hto2 (P10.out.g1.stopped aa)
                  have OK := Lib.hid (show TOp w tb tb2 (.int .i64 (t.stopE aa)) (.int .i64 (t.stopE aa)) (.slice none 0 0) (.slice none 0 0) w12 from TOp.err q2)
                  clear hto2 m2 q2
                  go_wp2_with fail
                  go_meet
                  exact OK.out
              by_cases h5 : op = 5
              · subst h5
                by_cases hl : t.lives aa = true
                · obtain ⟨k, rfl, hk, hd⟩ := lives_true hl
                  have HL := Lib.hid hl
                  clear hl
                  as_aux_lemma =>
                    go_wp2_with fail
                    refine (P10.out.lives _).mono ?_
                    rintro e' w11 ⟨rfl, rfl⟩
                    rw [HL.out]
                    go_wp2_with fail
                    refine (AT0.out _ P10.out.col.bel).mono ?_
                    rintro e' w12 ⟨rfl, hb12⟩
                    have P12 := Lib.hid (P10.out.below hb12)
                    clear hb12
                    go_wp2_with fail
                    refine (P12.out.level k hk hd id).mono ?_
                    rintro e' w13 ⟨rfl, hb13⟩
                    have P13 := Lib.hid (P12.out.below hb13)
                    clear hb13
                    obtain ⟨gn, cn, b, z1, z2, z3, z4, z5, z6, z7, -⟩ := P13.out.rnode k hk hd
                    unfold maxLen at z4
                    have Z7 := Lib.hid z7
                    clear z7
                    go_wp2_with fail
                    refine (Z7.out id).mono ?_
                    rintro e' w14 ⟨rfl, hb14⟩
                    have OK := Lib.hid (show TOp w tb tb2 (.int .i64 (lvEr (t.L[k]'hk).1.D id)) (.int .i64 (lvEr (t.L[k]'hk).1.D id)) (.slice none 0 0) (.slice none 0 0) w14 from TOp.err (P13.out.below hb14))
                    clear hb14 z1 z2 z3 z4 z5 z6
                    go_wp2_with fail
                    go_meet
                    exact OK.out
                · have HL := Lib.hid (show t.lives aa = false by simpa using hl)
                  clear hl
                  as_aux_lemma =>
                    go_wp2_with fail
                    refine (P10.out.lives _).mono ?_
                    rintro e' w11 ⟨rfl, rfl⟩
                    rw [HL.out]
                    go_wp2_with fail
                    refine (AT0.out _ P10.out.col.bel).mono ?_
                    rintro e' w12 ⟨rfl, hb12⟩
                    have P12 := Lib.hid (P10.out.below hb12)
                    clear hb12
                    go_wp2_with fail
                    refine (P12.out.level_no aa id HL.out).mono ?_
                    rintro e' w13 ⟨rfl, rfl⟩
                    have OK := Lib.hid (show TOp w tb tb2 (.int .i64 4) (.int .i64 4) (.slice none 0 0) (.slice none 0 0) w12 from TOp.err P12.out)
                    go_wp2_with fail
                    go_meet
                    exact OK.out
              by_cases h6 : op = 6
              · subst h6
                by_cases hl : t.lives aa = true
                · obtain ⟨k, rfl, hk, hd⟩ := lives_true hl
                  have HL := Lib.hid hl
                  obtain ⟨j1, j2, j3⟩ := joined_live hk hl id bz
                  have HN := Lib.hid (show ((t.L[k]'hk).1.joinN id bz).length ≤ 100 from j2 ▸ joinN_le P10.out.g1 k id bz)
                  have HG := Lib.hid (show TGood (t.node k ((t.L[k]'hk).1.joined id bz)) from j1 ▸ P10.out.g1.joined k id bz)
                  have J1 := Lib.hid j1
                  have J2 := Lib.hid j2
                  have J3 := Lib.hid j3
                  clear hl j1 j2 j3
                  as_aux_lemma =>
                    go_wp2_with fail
                    refine (P10.out.lives _).mono ?_
                    rintro e' w11 ⟨rfl, rfl⟩
                    rw [HL.out]
                    go_wp2_with fail
                    refine (AT0.out _ P10.out.col.bel).mono ?_
                    rintro e' w12 ⟨rfl, hb12⟩
                    have P12 := Lib.hid (P10.out.below hb12)
                    clear hb12
                    go_wp2_with fail
                    refine (P12.out.join k id bz).mono ?_
                    rw [J1.out, J2.out, J3.out]
                    rintro e' w13 ⟨B1, d1, rfl, ho1, hto⟩
                    obtain ⟨F1, m1, q1⟩ := P12.out.p hto HG.out
                    have PA := Lib.hid q1
                    have OA := Lib.hid ho1
                    have MA := Lib.hid m1
                    clear hto q1 ho1 m1
                    obtain ⟨gn, cn, b, z1, z2, z3, z4, z5, z6, -, z7⟩ := PA.out.rnode k hk hd
                    unfold maxLen at z4
                    have Z7 := Lib.hid z7
                    clear z7
                    go_wp2_with fail
                    refine (Z7.out id bz).mono ?_
                    rintro e' w14 ⟨B2, d2, rfl, ho2, hto2⟩
                    obtain ⟨F2, m2, q2⟩ := PA.out.r hto2 HG.out
                    have OK := Lib.hid (show TOp w tb tb2 (.int .i64 ((t.L[k]'hk).1.joinE id bz)) (.int .i64 ((t.L[k]'hk).1.joinE id bz)) (.slice B1 ((t.L[k]'hk).1.joinN id bz).length d1) (.slice B2 ((t.L[k]'hk).1.joinN id bz).length d2) w14 from TOp.notes HN.out OA.out MA.out m2 ho2 q2)
                    clear hto2 m2 ho2 q2 z1 z2 z3 z4 z5 z6
                    go_wp2_with fail
                    go_meet
                    exact OK.out
                · have HL := Lib.hid (show t.lives aa = false by simpa using hl)
                  clear hl
                  as_aux_lemma =>
                    go_wp2_with fail
                    refine (P10.out.lives _).mono ?_
                    rintro e' w11 ⟨rfl, rfl⟩
                    rw [HL.out]
                    go_wp2_with fail
                    refine (AT0.out _ P10.out.col.bel).mono ?_
                    rintro e' w12 ⟨rfl, hb12⟩
                    have P12 := Lib.hid (P10.out.below hb12)
                    clear hb12
                    go_wp2_with fail
                    refine (P12.out.join aa id bz).mono ?_
                    obtain ⟨j1, j2, j3⟩ := joined_dead HL.out id bz
                    rw [j1, j2, j3]
                    clear j1 j2 j3
                    rintro e' w13 ⟨B1, d1, rfl, ho1, hto⟩
                    obtain ⟨F1, m1, q1⟩ := P12.out.p hto P12.out.g1
                    have OK := Lib.hid (show TOp w tb tb2 (.int .i64 4) (.int .i64 4) (.slice B1 0 d1) (.slice none 0 0) w13 from ⟨t, 4, [], B1, none, 0, d1, 0, rfl, rfl, rfl, rfl, rfl, by decide, Reads.of_own ho1, Reads.none_, F1, q1⟩)
                    clear hto q1 ho1 m1
                    go_wp2_with fail
                    go_meet
                    exact OK.out
              have e1 : (op == 1) = false := by simpa using h1
              have e2 : (op == 2) = false := by simpa using h2
              have e3 : (op == 3) = false := by simpa using h3
              have e4 : (op == 4) = false := by simpa using h4
              have e5 : (op == 5) = false := by simpa using h5
              have e6 : (op == 6) = false := by simpa using h6
              clear h1 h2 h3 h4 h5 h6
              have OK := Lib.hid (show TOp w tb tb2 (.int .i64 0) (.int .i64 0) (.slice none 0 0) (.slice none 0 0) w10 from TOp.err P10.out)
              as_aux_lemma =>
                go_wp2_with fail
                go_meet
                exact OK.out
            case rest =>
              obtain ⟨t9, er, N, Ap, Aq, n9, cp, cq, rfl, rfl, rfl, rfl, hN, hn9, hrp, hrq, F9, hq9⟩ := hcut
              have PZ := Lib.hid hq9
              have HN := Lib.hid hN
              have RP := Lib.hid hrp
              have RQ := Lib.hid hrq
              clear hq9 hN hrp hrq P10 AT0
              obtain ⟨Aw, cw, hb', rb2, hrw⟩ := PZ.out.rway
              have HEQ := Lib.hid (fun W' (hb : Below wc.heap.size wc W') => eqn_same Ap Aq cp cq wc.heap.size n9 N HN.out (Nat.le_trans hn9 (by decide)) W' (RP.out.below hb (Nat.le_refl _)) (RQ.out.below hb (Nat.le_refl _)) hb.size)
              have HWY := Lib.hid (fun W' (hb : Below wc.heap.size wc W') => (PZ.out.below hb).way)
              have HET := Lib.hid (fun A20 c20 W20 (hr20 : Reads W20 W20.heap.size 1 A20 t9.way.length (cellsTx t9.way)) (hx : Below wc.heap.size wc W20) W' (hb : Below W20.heap.size W20 W') => eqt_same A20 Aw c20 cw W20.heap.size t9.way.length t9.way rfl PZ.out.g1.way W' (hr20.below hb (Nat.le_refl _)) ((reads_up hrw hx).below hb (Nat.le_refl _)) hb.size)
              have HS := Lib.hid (show ∀ w', Below wc.heap.size wc w' → (Below wc.heap.size wc w' ∧ w'.cell? ⟨tb2, 2, none⟩ = some (.slice Aw t9.way.length cw)) from fun w' h => ⟨h, (h.cell (p := ⟨tb2, 2, none⟩) hb').trans rb2⟩)
              have PF := Lib.hid (fun W' (hb : Below wc.heap.size wc W') => show TPRel w tb tb2 W' from ⟨t9, F9, PZ.out.below hb⟩)
              clear hrw rb2 hb' RP RQ HN
              as_aux_lemma =>
                go_upto_region 42 with fail
                go_region_held3 (fun w' => Below wc.heap.size wc w' ∧ w'.cell? ⟨tb2, 2, none⟩ = some (.slice Aw t9.way.length cw))
                  ((refine HS.out _ ?_; (repeat (first | (with_reducible exact hLL) | (with_reducible exact Below.refl _ _) | (with_reducible refine Below.drew ?_)))))
                  (first
                | (go_at_call 21; (with_reducible refine (HEQ.out _ ?i1).mono ?_); (case i1 => (repeat (first | (with_reducible exact hLL) | (with_reducible exact Below.refl _ _) | (with_reducible refine Below.drew ?_)))); rintro e' w20 ⟨rfl, hb20⟩; have hLL : Below wc.heap.size wc w20 := Below.thru5 (by (repeat (first | (with_reducible exact hLL) | (with_reducible exact Below.refl _ _) | (with_reducible refine Below.drew ?_)))) hb20)
                | (go_at_call 23; (with_reducible refine (HWY.out _ ?i8).mono ?_); (case i8 => (repeat (first | (with_reducible exact hLL) | (with_reducible exact Below.refl _ _) | (with_reducible refine Below.drew ?_)))); rintro e' w20 ⟨A20, c20, rfl, ho20, hb20⟩; have hLL : Below wc.heap.size wc w20 := Below.thru5 (by (repeat (first | (with_reducible exact hLL) | (with_reducible exact Below.refl _ _) | (with_reducible refine Below.drew ?_)))) hb20; have hK4 := Reads.of_own ho20; have hK5 := hLL; clear ho20)
                | (go_at_call 22; (with_reducible refine (HET.out _ _ _ hK4 hK5 _ ?i9).mono ?_); (case i9 => (first | (with_reducible exact Below.refl _ _) | (with_reducible exact (Below.refl _ _).drew) | (with_reducible exact (Below.refl _ _).drew.drew))); rintro e' w20 ⟨rfl, hb20⟩; have hLL : Below wc.heap.size wc w20 := Below.thru5 (by (repeat (first | (with_reducible exact hLL) | (with_reducible exact Below.refl _ _) | (with_reducible refine Below.drew ?_)))) hb20))
                all_goals
                  rename_i hheld
                  have RF := Lib.hid (PF.out _ hheld.1)
                  clear hheld hLL
                  go_wp2
                  exact ⟨⟨j + 1, by omega, by simp, RF.out⟩, by simp [RowKit.intOf]; omega⟩
          · go_wp2
            go_ret
            exact ⟨rfl, P0.out.col.bel⟩
      · exact absurd HTE.out hn
    · exact absurd HTE.out hn
  · refine (tnew_any A0 c0 l0 O0.out _ (reads_up R0.out HB3.out)).mono ?_
    rintro e' w4 (⟨hn, -⟩ | ⟨-, rfl, hb4⟩)
    · exact absurd hn hte
    · have HTE := Lib.hid hte
      have HB4 := Lib.hid (Below.thru5 HB3.out hb4)
      obtain ⟨z, hz⟩ : ∃ z, newTE l0 = z := ⟨_, rfl⟩
      have HZ := Lib.hid hz
      rw [hz] at hte ⊢
      have z1 : (z == 0) = false := by simpa using hte
      have z2 : (z != 0) = true := by simpa using hte
      clear hb4 hz hte
      go_wp2_with fail
      refine (rtnew_any A0 c0 l0 B0.out O0.out _ (reads_up R0.out HB4.out)).mono ?_
      rintro e' w5 (⟨hn, -⟩ | ⟨-, rfl, hb5⟩)
      · exact absurd hn HTE.out
      · have HB5 := Lib.hid (Below.thru5 HB4.out hb5)
        rw [HZ.out]
        clear hb5
        go_wp2
        go_ret
        exact ⟨rfl, HB5.out⟩
