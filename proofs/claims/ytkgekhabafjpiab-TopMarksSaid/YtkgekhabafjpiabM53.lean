/- The law TopMarks, walked. -/
import Derived.Test.YtkgekhabafjpiabM52
import Derived.Test.YtkgekhabafjpiabM41
import Derived.Test.YtkgekhabafjpiabM09
import Derived.BigQuiet
import Derived.Deep.QuietTactic
namespace Go.Proofs.Ytkgekhabafjpiab
open Go.RowKit Go.Lib
set_option linter.unusedSimpArgs false
set_option linter.unusedVariables false

theorem quiet_eq1 {P : Program} {f : FuncId} {args : Array Value} {w : World} {n : Nat} {v : Value}
    (h : Calls P f args (w.drewN n) fun e w' => e = .returned v ∧ w.drewN n = w') : Calls P f args (w.drewN n) fun e w'' => e = .returned v ∧ ∃ m, w'' = w.drewN m :=
  h.mono fun _ _ ⟨he, hm⟩ => ⟨he, n, hm.symm⟩
theorem Two.nowK {w W W' : World} {b : Nat} {s : NSt} {v : Value} {T : List Trn} (h : Two w W b s v T) (hk : Kept (fun k => v.ownBlock = some k) W W') : Calls Try.prog 11 #[.pointer (some ⟨b, 0, none⟩)] W' fun e w' => e = .returned (.int .i64 s.now) ∧ W' = w' := by
  obtain ⟨X, h1, h2, h3, h4, h5⟩ := h
  obtain ⟨_, _, _, _, _, h6⟩ := h1.kept hk (fun k e hx => h5 k e hx)
  exact now_any h6
theorem Two.app2 {w w8 W1 w9 : World} {b : Nat} {s : NSt} {v v' : Value} {T : List Trn} {x : Trn} (h : Two w w8 b s v T) (hb : Below w8.heap.size w8 W1) (ho : w9.ownsRow w.heap.size 44 2 v' (T.length + 1) (cellsT T ++ cellsT [x])) (hg : W1.grownBy w9 v.ownBlock) (hk : v'.ownBlock = v.ownBlock ∨ v'.ownBlock = some W1.heap.size) : Two w w9 b s v' (T ++ [x]) := (h.below hb).app ho hg hk
/-- the loop over one note: before, or behind -/
def NRel (w : World) (b : Nat) (s : NSt) (Tn : List Trn) (v : Value) (bb : Bool) (W : World) (v1 v2 iv : Value) (wr : World) : Prop :=
  (v = v1 ∧ v2 = .bool (!bb) ∧ iv = .int .i64 0 ∧ W = wr) ∨ (v2 = .bool bb ∧ iv = .int .i64 1 ∧ Two w wr b s v1 Tn)
/-- before a gap -/
def MRel (w : World) (b : Nat) (th : Int) (k : Nat) (v bv isv : Value) (wr : World) : Prop := ∃ d s T bad, bv = .int .i64 bad ∧ isv = .bool false ∧ GInv th k d s T bad ∧ Two w wr b s v T
/-- among ticks -/
def JRel (w : World) (b : Nat) (th : Int) (k : Nat) (d : PeerD) (s0 : NSt) (j : Nat) (v bv isv : Value) (wr : World) : Prop := ∃ s T bad is, bv = .int .i64 bad ∧ isv = .bool is ∧ KInv th k d j s T bad is ∧ s.now = s0.now + j ∧ 0 ≤ bad ∧ bad ≤ s.now ∧ Two w wr b s v T

set_option maxHeartbeats 8000000 in
set_option maxRecDepth 100000 in
theorem topMarks_walk (A : Option Addr) (c : Nat) (l : List Int) (a : Int) (w : World) (hr : Reads w w.heap.size 1 A l.length (cellsI l)) (hl : l.length ≤ c ∧ c ≤ maxLen) (hbd : ∀ x ∈ l, -9223372036854775808 ≤ x ∧ x ≤ 9223372036854775807) (lo : -9223372036854775808 ≤ a) (hi : a ≤ 9223372036854775807) :
    Calls Try.prog 3 #[.slice A l.length c, .int .i64 a] w fun e w' => e = .returned (.bool true) ∧ Below w.heap.size w w' := by
  obtain ⟨i0, hi0, hz0, hz1, hz2⟩ := info_parts turn_info
  obtain ⟨n, hn⟩ : ∃ n, l.length = n := ⟨_, rfl⟩
  rw [hn] at hr hl ⊢
  have HN := Lib.hid hn
  have HR := Lib.hid hr
  have HBD := Lib.hid hbd
  obtain ⟨m, hm⟩ : ∃ m, m = Nat.min n 25 := ⟨_, rfl⟩
  have hm1 : m ≤ n := by rw [hm]; exact Nat.min_le_left _ _
  have hm9 : m ≤ 25 := by rw [hm]; exact Nat.min_le_right _ _
  have hmin : min (n : Int) 25 = (m : Int) := by rw [hm]; have : Nat.min n 25 = min n 25 := rfl; rw [this]; omega
  obtain ⟨hnc, hcm⟩ := hl
  unfold maxLen at hcm
  obtain ⟨hw0, hw1⟩ := wthn_bd a (show (1 : Int) ≤ 8 by decide)
  obtain ⟨th, hth⟩ : ∃ th, 1 + wthn a 8 = th := ⟨_, rfl⟩
  have ht1 : 1 ≤ th := by omega
  have ht2 : th ≤ 8 := by omega
  obtain ⟨hs1, hs2, hs3⟩ := tinv_start (M := 40) (th := th) ht1 (by omega) 3 (by decide) (by decide) (by decide)
  have H1 := Lib.hid hs1
  have H2 := Lib.hid hs2
  have H3 := Lib.hid hs3
  have HW := Lib.hid (show wthn a 8 = th - 1 by omega)
  clear hr hbd hn hm hth hs1 hs2 hs3 hw0 hw1
  go_enter Try.func3, Try.ntmps3
  go_wp2_with fail
  refine (begun_true _).mono ?_
  rintro e' w1 ⟨rfl, hb1⟩
  have B1 := Lib.hid hb1
  clear hb1
  go_wp2_with fail
  refine (config_any ⟨#[97]⟩ 100000 _).mono ?_
  rintro e' w2 ⟨rfl, hb2⟩
  have B2 := Lib.hid (B1.out.trans (hb2.mono B1.out.size))
  clear hb2
  go_wp2_with fail
  refine (new_a _).mono ?_
  rintro e' w3 hnew
  obtain ⟨b, rfl, how, -⟩ := Own.new B2.out hnew
  have O3 := Lib.hid how
  clear hnew how
  go_wp2_with fail
  refine (O3.out.watch (NGood.start cA_ok) idb (by decide) 3).mono ?_
  rintro e' w4 ⟨rfl, how⟩
  rw [H1.out]
  have O4 := Lib.hid how
  clear how
  go_wp2_with fail
  refine (kwithin_any a 8 (by decide) (by decide) _).mono ?_
  rintro e' w' ⟨rfl, rfl⟩
  rw [HW.out]
  have hwt : IntKind.i64.wrap (1 + (th - 1)) = th := by rw [IntKind.wrap_i64]; omega
  have hws : 1 + (th - 1) = th := by omega
  go_wp2_with fail
  refine (O4.out.join ((NGood.start cA_ok).watched idb 3) idb th).mono ?_
  rintro e' w5 ⟨A5, c5, rfl, -, how⟩
  rw [H2.out]
  have G0 := Lib.hid (show MRel w b th 0 (.slice none 0 0) (.int .i64 0) (.bool false) w5 from ⟨_, _, [], 0, rfl, rfl, ⟨H3.out, by have := H3.out.now; have h0 := H3.out.good.now0; rw [show NSt.now _ = 0 by simp at this; omega]; exact TOk.start, by have := H3.out.now; have h0 := H3.out.good.now0; rw [show NSt.now _ = 0 by simp at this; omega]; exact bdT_start.symm, by simp⟩, Two.start how⟩)
  clear how hwt hws
  go_wp2_with fail
  go_loopw [9, 10, 11, 61] (fun v bv isv iv wr => ∃ k : Nat, k ≤ m ∧ iv = .int .i64 (k : Int) ∧ MRel w b th k v bv isv wr) (fun _ _ _ iv _ => m - (RowKit.intOf iv).toNat)
  case atStart => exact ⟨0, by omega, rfl, G0.out⟩
  case round =>
    obtain ⟨k, hk, rfl, d, s0, T0, bad0, rfl, rfl, hgi, htw⟩ := hrel
    obtain ⟨wo, rfl⟩ : ∃ wo, wo = wr := ⟨_, rfl⟩
    have GI := Lib.hid hgi
    have TW := Lib.hid htw
    clear hgi htw G0 H3 O4 O3
    obtain ⟨Av0, cv0, rfl⟩ := ownsRow_len TW.out.row
    by_cases hlt : k < m
    · have hkl : k < l.length := by rw [HN.out]; omega
      obtain ⟨bb, off, rfl, hbb, hcs⟩ := (HR.out.below TW.out.bel (Nat.le_refl _)).addr (by omega)
      have hck := hcs k (.int .i64 (l[k]'hkl)) (by simp [cellsI, hkl])
      obtain ⟨gb0, gb1⟩ := HBD.out _ (List.getElem_mem hkl)
      have hbbo : bb < wo.heap.size := Nat.lt_of_lt_of_le hbb TW.out.bel.size
      generalize l[k]'hkl = x at *
      obtain ⟨hx0, hx1⟩ := wthn_bd x (show (1 : Int) ≤ 40 by decide)
      obtain ⟨g, hg⟩ : ∃ g : Nat, 1 + wthn x 40 = (g : Int) := ⟨(1 + wthn x 40).toNat, by omega⟩
      have HXW := Lib.hid (show wthn x 40 = (g : Int) - 1 by omega)
      have hg1 : 1 ≤ g := by omega
      have hg2 : g ≤ 40 := by omega
      have hsn0 := GI.out.t.good.now0
      have hsn1 : s0.now ≤ 1000 := by have := GI.out.t.now; omega
      have hk25 : k ≤ 25 := by omega
      have HEN := Lib.hid (show ∀ W, Calls Try.prog 12 #[.agg #[.string ⟨#[98]⟩, .int .i64 0, .int .i64 ((k : Int) + 1)]] W fun e w' => e = .returned (.tuple #[.string (codeS idb 0 ((k : Int) + 1)), .int .i64 0]) ∧ Below W.heap.size W w' from fun W => enc_ok idb 0 ((k : Int) + 1) (by unfold beatE; rw [if_pos (by decide), if_pos (by omega)]) W)
      have hb0 : 0 ≤ bad0 ∧ bad0 ≤ s0.now := by rw [GI.out.bad]; exact bdT_bd GI.out.tok (by omega) (by have := GI.out.len; omega)
      have J0 := Lib.hid (show JRel w b th k d s0 0 (.slice Av0 T0.length cv0) (.int .i64 bad0) (.bool false) wo from ⟨s0, T0, bad0, false, rfl, rfl, GI.out.first, by simp, hb0.1, hb0.2, TW.out⟩)
      clear hcs hg hx0 hx1 hb0
      go_wp2_with fail
      refine (kwithin_any x 40 (by decide) (by decide) _).mono ?_
      rintro e' w' ⟨rfl, rfl⟩
      rw [HXW.out]
      have hgt : IntKind.i64.wrap (1 + ((g : Int) - 1)) = g := by rw [IntKind.wrap_i64]; omega
      have hgs : 1 + ((g : Int) - 1) = g := by omega
      go_wp2_with fail
      clear hgt hgs hck
      go_loopw [9, 10, 11, 69] (fun v bv isv iv wr => ∃ j : Nat, j ≤ g ∧ iv = .int .i64 (j : Int) ∧ JRel w b th k d s0 j v bv isv wr) (fun _ _ _ iv _ => g - (RowKit.intOf iv).toNat)
      case atStart => exact ⟨0, by omega, rfl, J0.out⟩
      case round =>
        obtain ⟨j, hj, rfl, s, T, bad, is, rfl, rfl, hki, hnj, hbl, hbh, htw⟩ := hrel
        obtain ⟨wp, rfl⟩ : ∃ wp, wp = wr := ⟨_, rfl⟩
        have KI := Lib.hid hki
        have TZ := Lib.hid htw
        have HNJ := Lib.hid hnj
        have hbh2 : bad ≤ s0.now + j := by omega
        clear hki htw J0 hnj hbh
        obtain ⟨Av, cv, rfl⟩ := ownsRow_len TZ.out.row
        by_cases hjl : j < g
        · have KT := KI.out.step (by have := HNJ.out; omega)
          have TE := Lib.hid KT.1
          have KA := Lib.hid KT.2
          clear KT
          have hn' : (s.ticked 1).tell.now = s0.now + ((j + 1 : Nat) : Int) := by show s.now + 1 = _; have := HNJ.out; omega
          have HN' := Lib.hid hn'
          have hbad1 : bad + 1 ≤ 2000 := by omega
          clear hn'
          rcases KA.out with ⟨rfl, hno, hki2⟩ | ⟨rfl, hno, hki2⟩ | ⟨rfl, hno, hki2⟩
          · have KJ := Lib.hid hki2
            have HNO := Lib.hid hno
            clear hki2 hno KA
            go_wp2_with fail
            refine (TZ.out.tick KI.out.q.good 1 TE.out).mono ?_
            rintro e' w6 ⟨A6, c6, A7, c7, rfl, hrd, htw⟩
            rw [HNO.out] at hrd ⊢
            have T6 := Lib.hid htw
            have RN := Lib.hid hrd
            clear htw hrd
            simp only [List.length_cons, List.length_nil, Nat.zero_add]
            go_wp2_with fail
            go_loop [9, 11, 84] (fun v1 v2 iv => v1 = .slice Av T.length cv ∧ v2 = .bool false ∧ iv = .int .i64 0) (fun _ _ _ => 0)
            case atStart => exact ⟨rfl, rfl, rfl⟩
            case round =>
              obtain ⟨rfl, rfl, rfl⟩ := hrel
              have KEEP := Lib.hid (show JRel w b th k d s0 (j + 1) (.slice Av T.length cv) (.int .i64 (bad)) (.bool false) _ from ⟨(s.ticked 1).tell, T, bad, false, rfl, rfl, KJ.out, HN'.out, by omega, by have := HN'.out; omega, T6.out⟩)
              go_wp2
              exact ⟨⟨j + 1, by omega, by simp, KEEP.out⟩, by simp [RowKit.intOf]; omega⟩
          · have KJ := Lib.hid hki2
            have HNO := Lib.hid hno
            clear hki2 hno KA
            go_wp2_with fail
            refine (TZ.out.tick KI.out.q.good 1 TE.out).mono ?_
            rintro e' w6 ⟨A6, c6, A7, c7, rfl, hrd, htw⟩
            rw [HNO.out] at hrd ⊢
            have T6 := Lib.hid htw
            have RN := Lib.hid hrd
            clear htw hrd
            simp only [List.length_cons, List.length_nil, Nat.zero_add]
            go_wp2_with fail
            obtain ⟨v, hv⟩ : ∃ v, Value.slice Av T.length cv = v := ⟨_, rfl⟩
            rw [hv] at T6 ⊢
            have HV := Lib.hid hv
            clear hv
            go_loopw [9, 11, 84] (fun v1 v2 iv wr => NRel w b (s.ticked 1).tell (T ++ [(s.now + 1, true)]) v true w6 v1 v2 iv wr) (fun _ _ iv _ => 1 - (RowKit.intOf iv).toNat)
            case atStart => exact .inl ⟨rfl, rfl, rfl, rfl⟩
            case round =>
              rcases hrel with ⟨rfl, rfl, rfl, rfl⟩ | ⟨rfl, rfl, htw⟩
              · have hcs := (tri_addr RN.out rfl Nat.zero_lt_one)
                obtain ⟨nb, noff, rfl, hnb, hcs⟩ := hcs
                obtain ⟨n0, n1, n2⟩ := hcs 0 Nat.zero_lt_one
                simp only [Nat.zero_mul, Nat.add_zero, List.getElem_cons_zero] at n0 n1 n2
                have EX := Lib.hid ((Env.start w6).lay (tcells (idb, th, true)).toArray 41)
                simp only [tcells] at EX
                have TZ8 := Lib.hid (T6.out.below EX.out.bel)
                clear hcs
                go_upto_region 88 with fail
                generalize hW8 : World.alloc w6 _ = w8 at *
                have hs8 : w6.heap.size + 1 ≤ w8.heap.size := by rw [← hW8]; simp
                clear hW8 n0 n1 n2
                have hown := TZ8.out.row
                obtain ⟨At, ct, hvt⟩ := ownsRow_len hown
                subst hvt
                have ROW := Lib.hid hown
                have hlt8 := Lib.hid (show ∀ k, (Value.slice At T.length ct).ownBlock = some k → k < w6.heap.size from fun k hk => (T6.out.row.lt k hk).2)
                have hTl : T.length ≤ 60 := by have := KI.out.len; simp at this; omega
                clear hown
                have HS := Lib.hid (show ∀ w', Kept (fun k => (Value.slice At T.length ct).ownBlock = some k) w8 w' → (Kept (fun k => (Value.slice At T.length ct).ownBlock = some k) w8 w' ∧ w'.cell? ⟨w6.heap.size, 2, none⟩ = some (.bool true))
                  from fun w' h => ⟨h, h.cell (EX.out.hd.cell 2) (fun e => by have := hlt8.out _ e; simp at this)⟩)
                have HNW := Lib.hid (show ∀ W, Kept (fun k => (Value.slice At T.length ct).ownBlock = some k) w8 W → Calls Try.prog 11 #[.pointer (some ⟨b, 0, none⟩)] W fun e w' => e = .returned (.int .i64 ((s.ticked 1).tell).now) ∧ W = w' from fun W h => TZ8.out.nowK h)
                have HRE := Lib.hid (fun w' => reads_trn w' 44 (((s.ticked 1).tell).now, true))
                have HO1 := Lib.hid (oneCell_turns [(((s.ticked 1).tell).now, true)])
                have hw8z : w.heap.size ≤ w8.heap.size := TZ8.out.bel.size
                go_region_held3 (fun w' => Kept (fun k => (Value.slice At T.length ct).ownBlock = some k) w8 w' ∧ w'.cell? ⟨w6.heap.size, 2, none⟩ = some (.bool true))
                  ((refine HS.out _ ?_; first | (with_reducible exact hK9) | (with_reducible exact Kept.refl _ _) | (with_reducible exact (Kept.refl _ _).drew) | exact (Kept.refl _ _).alloc _ | exact ((Kept.refl _ _).drew).alloc _))
                  (first
                    | (go_at_call 11; (with_reducible refine (HNW.out _ ?ia).mono ?_); (case ia => first | (with_reducible exact Kept.refl _ _) | (with_reducible exact (Kept.refl _ _).drew)); rintro e' w' ⟨rfl, rfl⟩)
                    | ((refine step_turn (by rfl) _ _ (by rfl) w.heap.size ((s.ticked 1).tell).now true At ct T (by rfl) ROW.out 1 (by rfl) hTl hw8z ?_; intro A9 c9 w9 hown9 hgr9 BK9; have hK9 : Kept (fun k => (Value.slice At T.length ct).ownBlock = some k) w8 w9 := Kept.grown ((Kept.refl _ _).alloc _).drew hgr9 (fun k hk => .inl hk))))
                all_goals
                  have TW9 := Lib.hid (Two.app2 TZ8.out ((Below.refl _ _).alloc (Nat.le_refl _) _).drew hown9 hgr9 BK9.out)
                  clear hown9 hgr9 BK9 hK9
                  go_wp2
                  exact ⟨.inr ⟨rfl, rfl, TW9.out⟩, by simp [RowKit.intOf]⟩
              · have TW9 := Lib.hid htw
                clear htw
                obtain ⟨A9, c9, rfl⟩ := ownsRow_len TW9.out.row
                have KEEP := Lib.hid (show JRel w b th k d s0 (j + 1) (.slice A9 (T ++ [(s.now + 1, true)]).length c9) (.int .i64 (bad)) (.bool true) _ from ⟨(s.ticked 1).tell, (T ++ [(s.now + 1, true)]), bad, true, rfl, rfl, KJ.out, HN'.out, by omega, by have := HN'.out; omega, TW9.out⟩)
                go_wp2
                exact ⟨⟨j + 1, by omega, by simp, KEEP.out⟩, by simp [RowKit.intOf]; omega⟩
          · have KJ := Lib.hid hki2
            have HNO := Lib.hid hno
            clear hki2 hno KA
            go_wp2_with fail
            refine (TZ.out.tick KI.out.q.good 1 TE.out).mono ?_
            rintro e' w6 ⟨A6, c6, A7, c7, rfl, hrd, htw⟩
            rw [HNO.out] at hrd ⊢
            have T6 := Lib.hid htw
            have RN := Lib.hid hrd
            clear htw hrd
            simp only [List.length_cons, List.length_nil, Nat.zero_add]
            go_wp2_with fail
            go_loop [9, 11, 84] (fun v1 v2 iv => v1 = .slice Av T.length cv ∧ v2 = .bool true ∧ iv = .int .i64 0) (fun _ _ _ => 0)
            case atStart => exact ⟨rfl, rfl, rfl⟩
            case round =>
              obtain ⟨rfl, rfl, rfl⟩ := hrel
              have KEEP := Lib.hid (show JRel w b th k d s0 (j + 1) (.slice Av T.length cv) (.int .i64 (bad + 1)) (.bool true) _ from ⟨(s.ticked 1).tell, T, bad + 1, true, rfl, rfl, KJ.out, HN'.out, by omega, by have := HN'.out; omega, T6.out⟩)
              go_wp2
              exact ⟨⟨j + 1, by omega, by simp, KEEP.out⟩, by simp [RowKit.intOf]; omega⟩
        · have hjg : j = g := by omega
          subst hjg
          have NX := Lib.hid (KI.out.next GI.out.t ht1 (by omega) (by omega) (by omega))
          go_wp2_with fail
          refine (HEN.out _).mono ?_
          rintro e' w7 ⟨rfl, hb7⟩
          have T7 := Lib.hid (TZ.out.below hb7)
          clear hb7
          rcases NX.out.2 with ⟨his, hno, hgi⟩ | ⟨his, hno, hgi⟩
          · subst his
            have GJ := Lib.hid hgi
            have HNO := Lib.hid hno
            clear hgi hno
            go_wp2_with fail
            refine (T7.out.hear KI.out.q.good (codeS idb 0 ((k : Int) + 1))).mono ?_
            rintro e' w8x ⟨A8, c8, rfl, hrd, htw⟩
            rw [NX.out.1]
            rw [HNO.out] at hrd ⊢
            have T6 := Lib.hid htw
            have RN := Lib.hid hrd
            clear htw hrd
            simp only [List.length_cons, List.length_nil, Nat.zero_add]
            go_wp2_with fail
            go_loop [9, 11, 117] (fun v1 v2 iv => v1 = .slice Av T.length cv ∧ v2 = .bool false ∧ iv = .int .i64 0) (fun _ _ _ => 0)
            case atStart => exact ⟨rfl, rfl, rfl⟩
            case round =>
              obtain ⟨rfl, rfl, rfl⟩ := hrel
              have KEEP := Lib.hid (show MRel w b th (k + 1) (.slice Av T.length cv) (.int .i64 bad) (.bool false) _ from ⟨_, _, _, _, rfl, rfl, GJ.out, T6.out⟩)
              go_wp2
              exact ⟨⟨k + 1, by omega, by simp, KEEP.out⟩, by simp [RowKit.intOf]; omega⟩
          · subst his
            have GJ := Lib.hid hgi
            have HNO := Lib.hid hno
            clear hgi hno
            go_wp2_with fail
            refine (T7.out.hear KI.out.q.good (codeS idb 0 ((k : Int) + 1))).mono ?_
            rintro e' w8x ⟨A8, c8, rfl, hrd, htw⟩
            rw [NX.out.1]
            rw [HNO.out] at hrd ⊢
            have T6 := Lib.hid htw
            have RN := Lib.hid hrd
            clear htw hrd
            simp only [List.length_cons, List.length_nil, Nat.zero_add]
            go_wp2_with fail
            have hnw : (s.heard (codeS idb 0 ((k : Int) + 1))).now = s.now := GJ.out.t.last.symm
            have HNW0 := Lib.hid hnw
            clear hnw
            obtain ⟨v, hv⟩ : ∃ v, Value.slice Av T.length cv = v := ⟨_, rfl⟩
            rw [hv] at T6 ⊢
            have HV := Lib.hid hv
            clear hv
            go_loopw [9, 11, 117] (fun v1 v2 iv wr => NRel w b (s.heard (codeS idb 0 ((k : Int) + 1))) (T ++ [(s.now, false)]) v false w8x v1 v2 iv wr) (fun _ _ iv _ => 1 - (RowKit.intOf iv).toNat)
            case atStart => exact .inl ⟨rfl, rfl, rfl, rfl⟩
            case round =>
              rcases hrel with ⟨rfl, rfl, rfl, rfl⟩ | ⟨rfl, rfl, htw⟩
              · have hcs := (tri_addr RN.out rfl Nat.zero_lt_one)
                obtain ⟨nb, noff, rfl, hnb, hcs⟩ := hcs
                obtain ⟨n0, n1, n2⟩ := hcs 0 Nat.zero_lt_one
                simp only [Nat.zero_mul, Nat.add_zero, List.getElem_cons_zero] at n0 n1 n2
                have EX := Lib.hid ((Env.start w8x).lay (tcells (idb, th, false)).toArray 41)
                simp only [tcells] at EX
                have TZ8 := Lib.hid (T6.out.below EX.out.bel)
                clear hcs
                go_upto_region 121 with fail
                generalize hW8 : World.alloc w8x _ = w8 at *
                have hs8 : w8x.heap.size + 1 ≤ w8.heap.size := by rw [← hW8]; simp
                clear hW8 n0 n1 n2
                have hown := TZ8.out.row
                obtain ⟨At, ct, hvt⟩ := ownsRow_len hown
                subst hvt
                have ROW := Lib.hid hown
                have hlt8 := Lib.hid (show ∀ k, (Value.slice At T.length ct).ownBlock = some k → k < w8x.heap.size from fun k hk => (T6.out.row.lt k hk).2)
                have hTl : T.length ≤ 60 := by have := KI.out.len; simp at this; omega
                clear hown
                have HS := Lib.hid (show ∀ w', Kept (fun k => (Value.slice At T.length ct).ownBlock = some k) w8 w' → (Kept (fun k => (Value.slice At T.length ct).ownBlock = some k) w8 w' ∧ w'.cell? ⟨w8x.heap.size, 2, none⟩ = some (.bool false))
                  from fun w' h => ⟨h, h.cell (EX.out.hd.cell 2) (fun e => by have := hlt8.out _ e; simp at this)⟩)
                have HNW := Lib.hid (show ∀ W, Kept (fun k => (Value.slice At T.length ct).ownBlock = some k) w8 W → Calls Try.prog 11 #[.pointer (some ⟨b, 0, none⟩)] W fun e w' => e = .returned (.int .i64 ((s.heard (codeS idb 0 ((k : Int) + 1)))).now) ∧ W = w' from fun W h => TZ8.out.nowK h)
                have HRE := Lib.hid (fun w' => reads_trn w' 44 (((s.heard (codeS idb 0 ((k : Int) + 1)))).now, false))
                have HO1 := Lib.hid (oneCell_turns [(((s.heard (codeS idb 0 ((k : Int) + 1)))).now, false)])
                have hw8z : w.heap.size ≤ w8.heap.size := TZ8.out.bel.size
                go_region_held3 (fun w' => Kept (fun k => (Value.slice At T.length ct).ownBlock = some k) w8 w' ∧ w'.cell? ⟨w8x.heap.size, 2, none⟩ = some (.bool false))
                  ((refine HS.out _ ?_; first | (with_reducible exact hK9) | (with_reducible exact Kept.refl _ _) | (with_reducible exact (Kept.refl _ _).drew) | exact (Kept.refl _ _).alloc _ | exact ((Kept.refl _ _).drew).alloc _))
                  (first
                    | (go_at_call 11; (with_reducible refine (HNW.out _ ?ia).mono ?_); (case ia => first | (with_reducible exact Kept.refl _ _) | (with_reducible exact (Kept.refl _ _).drew)); rintro e' w' ⟨rfl, rfl⟩)
                    | ((refine step_turn (by rfl) _ _ (by rfl) w.heap.size ((s.heard (codeS idb 0 ((k : Int) + 1)))).now false At ct T (by rfl) ROW.out 1 (by rfl) hTl hw8z ?_; intro A9 c9 w9 hown9 hgr9 BK9; have hK9 : Kept (fun k => (Value.slice At T.length ct).ownBlock = some k) w8 w9 := Kept.grown ((Kept.refl _ _).alloc _).drew hgr9 (fun k hk => .inl hk))))
                all_goals
                  have TW9 := Lib.hid (HNW0.out ▸ Two.app2 TZ8.out ((Below.refl _ _).alloc (Nat.le_refl _) _).drew hown9 hgr9 BK9.out)
                  clear hown9 hgr9 BK9 hK9
                  go_wp2
                  exact ⟨.inr ⟨rfl, rfl, TW9.out⟩, by simp [RowKit.intOf]⟩
              · have TW9 := Lib.hid htw
                clear htw
                obtain ⟨A9, c9, rfl⟩ := ownsRow_len TW9.out.row
                have KEEP := Lib.hid (show MRel w b th (k + 1) (.slice A9 (T ++ [(s.now, false)]).length c9) (.int .i64 bad) (.bool false) _ from ⟨_, _, _, _, rfl, rfl, GJ.out, TW9.out⟩)
                go_wp2
                exact ⟨⟨k + 1, by omega, by simp, KEEP.out⟩, by simp [RowKit.intOf]; omega⟩
    · have hkm : k = m := by omega
      subst hkm
      have hsn0 := GI.out.t.good.now0
      have hsn1 : s0.now ≤ 1000 := by have := GI.out.t.now; omega
      have hTl : T0.length ≤ 50 := by have := GI.out.len; omega
      have hfit := GI.out.tok.fits (by omega) (by omega)
      have hcp := ownsRow_cap TW.out.row
      have HMO := Lib.hid (show ∀ W, Below wo.heap.size wo W → Calls Try.prog 14 #[.slice Av0 T0.length cv0, .int .i64 s0.now] W fun e' w' => e' = .returned (.tuple #[.agg #[.int .i64 (times T0.length (T0.length + 1)), .int .i64 bad0, .int .i64 (s0.now - bad0)], .int .i64 0]) ∧ Below W.heap.size W w' from fun W hW => by
        have := mof_ok Av0 cv0 W.heap.size T0.length T0 rfl s0.now hfit hcp.1 hcp.2 W (Reads.of_own (TW.out.below hW).row) (Nat.le_refl _)
        rw [good_end] at this
        have hb : badT (withEnd T0 s0.now) (T0.length + 1) = bad0 := GI.out.bad.symm
        rw [hb] at this
        exact this)
      have hb0 : 0 ≤ bad0 ∧ bad0 ≤ s0.now := by rw [GI.out.bad]; exact bdT_bd GI.out.tok (by omega) (by omega)
      obtain ⟨hb01, hb02⟩ := hb0
      clear hfit hcp
      go_wp2_with fail
      refine (TW.out.own.now).mono ?_
      rintro e' w' ⟨rfl, rfl⟩
      go_wp2_with fail
      refine (HMO.out _ (Below.refl _ _)).mono ?_
      rintro e' w8 ⟨rfl, hb8⟩
      have T8 := Lib.hid (TW.out.below hb8)
      have EM := Lib.hid ((Env.start w8).lay #[.int .i64 (times T0.length (T0.length + 1)), .int .i64 bad0, .int .i64 (s0.now - bad0)] 51)
      have T9 := Lib.hid (T8.out.below EM.out.bel)
      have hwx : IntKind.i64.wrap (bad0 + (s0.now - bad0)) = s0.now := by rw [IntKind.wrap_i64]; omega
      have hwy : bad0 + (s0.now - bad0) = s0.now := by omega
      clear hb8
      go_upto_region 140 with fail
      generalize hW9 : World.alloc w8 _ = w9 at *
      have m1 := EM.out.hd.cell 1
      have m2 := EM.out.hd.cell 2
      simp at m1 m2
      go_quiet ((go_at_call 11; exact quiet_eq1 (T9.out.own.drewN _).now))
      have B9 := Lib.hid (below_drewN T9.out.bel nq)
      go_wp2
      go_ret
      exact ⟨rfl, B9.out⟩
end Go.Proofs.Ytkgekhabafjpiab
