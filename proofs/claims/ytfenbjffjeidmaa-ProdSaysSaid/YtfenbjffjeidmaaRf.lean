/- The reference's Quot. -/
import Derived.Test.YtfenbjffjeidmaaRd
import Derived.Test.YtfenbjffjeidmaaRe
import Derived.Test.YtfenbjffjeidmaaRmade
namespace Go.Proofs.Ytfenbjffjeidmaa
open Go.RowKit
set_option linter.unusedSimpArgs false
set_option linter.unusedVariables false

def bcells (l : List Bool) : Array Value := (l.map Value.bool).toArray

theorem reads_blk {w : World} {g : Nat} (l : List Bool) (h : Blk w g 4 (bcells l)) : Reads w w.heap.size 1 (some ⟨g, 0, none⟩) l.length (l.map Value.bool) := by
  refine ⟨by simp, fun _ => ⟨_, rfl, h.lt, fun j u hu => ?_⟩⟩
  have hc := h.cell j
  by_cases hj : j = 0
  · subst hj; simpa [Addr.add, bcells, hc] using hu
  · simpa [Addr.add, bcells, hc, hj] using hu

def QuotIs (la : List Bool) (vb m : Nat) (O L : List Bool) : Prop :=
  O.length = la.length ∧ O.take m = List.replicate m false ∧ Bt.val (O.drop m) = Bt.val (la.drop m) / vb ∧ L.length + m = la.length ∧ Bt.val L = Bt.val (la.drop m) % vb

theorem dm {n vb q r : Nat} (h : n = vb * q + r) (hr : r < vb) : n / vb = q ∧ n % vb = r := by
  subst h
  refine ⟨?_, ?_⟩
  · rw [Nat.mul_add_div (by omega), Nat.div_eq_of_lt hr, Nat.add_zero]
  · rw [Nat.mul_add_mod, Nat.mod_eq_of_lt hr]

theorem dm_less (x V vb : Nat) (hv : 0 < vb) (h : x + 2 * (V % vb) < vb) : (x + 2 * V) / vb = 2 * (V / vb) ∧ (x + 2 * V) % vb = x + 2 * (V % vb) := by
  have hm := Nat.div_add_mod V vb
  have e := Nat.mul_left_comm vb 2 (V / vb)
  exact dm (by omega) h

theorem dm_more (x V vb : Nat) (hv : 0 < vb) (hx : x ≤ 1) (h : vb ≤ x + 2 * (V % vb)) : (x + 2 * V) / vb = 1 + 2 * (V / vb) ∧ (x + 2 * V) % vb = x + 2 * (V % vb) - vb := by
  have hm := Nat.div_add_mod V vb
  have hl := Nat.mod_lt V hv
  have e := Nat.mul_left_comm vb 2 (V / vb)
  refine dm ?_ (by omega)
  rw [Nat.mul_add]
  omega

theorem take_fewer {O : List Bool} {i : Nat} (h2 : O.take (i + 1) = List.replicate (i + 1) false) : O.take i = List.replicate i false := by
  have := congrArg (List.take i) h2
  rw [List.take_take] at this
  simpa [Nat.min_eq_left (Nat.le_succ i)] using this

theorem quot_less {la O L : List Bool} {vb i : Nat} (hi : i < la.length) (hv : 0 < vb) (h : QuotIs la vb (i + 1) O L) (hlt : Bt.val (la[i] :: L) < vb) : QuotIs la vb i O (la[i] :: L) := by
  obtain ⟨h1, h2, h3, h4, h5⟩ := h
  have hO : O[i]'(by omega) = false := by
    have e : (O.take (i + 1))[i]'(by simp; omega) = false := by simp only [h2]; simp
    simpa using e
  have e1 := Bt.val_drop O i
  have e2 := Bt.val_drop la i
  rw [Bt.bit_at O i (by omega), hO] at e1
  rw [Bt.bit_at la i hi] at e2
  rw [Bt.val_cons, h5] at hlt
  obtain ⟨d1, d2⟩ := dm_less _ _ _ hv hlt
  refine ⟨h1, take_fewer h2, ?_, by simp; omega, ?_⟩
  · rw [e1, h3, e2, d1]; simp
  · rw [e2, Bt.val_cons, h5, d2]

theorem quot_more {la O L L' : List Bool} {vb i : Nat} (hi : i < la.length) (hv : 0 < vb) (h : QuotIs la vb (i + 1) O L) (hge : vb ≤ Bt.val (la[i] :: L)) (hl' : L'.length = (la[i] :: L).length) (hv' : Bt.val L' = Bt.val (la[i] :: L) - vb) :
    QuotIs la vb i (O.set i true) L' := by
  obtain ⟨h1, h2, h3, h4, h5⟩ := h
  have e1 := Bt.val_drop (O.set i true) i
  have e2 := Bt.val_drop la i
  rw [Bt.bit_at (O.set i true) i (by simp; omega)] at e1
  rw [Bt.bit_at la i hi] at e2
  have e4 : (O.set i true).drop (i + 1) = O.drop (i + 1) := by rw [List.drop_set_of_lt (by omega)]
  rw [e4] at e1
  rw [Bt.val_cons, h5] at hge hv'
  have hb : la[i].toNat ≤ 1 := by cases la[i] <;> simp
  obtain ⟨d1, d2⟩ := dm_more _ _ _ hv hb hge
  refine ⟨by simp [h1], ?_, ?_, by rw [hl']; simp; omega, ?_⟩
  · rw [List.take_set_of_le (Nat.le_refl i)]
    exact take_fewer h2
  · rw [e1, h3, e2, d1]; simp
  · rw [hv', e2, d2]

def QuotRel (la : List Bool) (vb : Nat) (w : World) (v : Value) (j : Int) (wr : World) : Prop :=
  ∃ A c O L, v = .slice A L.length c ∧ -1 ≤ j ∧ j < la.length ∧ QuotIs la vb (j + 1).toNat O L ∧ Blk wr w.heap.size 4 (bcells O) ∧
    wr.ownsRow (w.heap.size + 1) 4 1 (.slice A L.length c) L.length (L.map Value.bool) ∧ Below w.heap.size w wr

def QuotPost (la lb : List Bool) (w : World) (e : Ending) (w' : World) : Prop :=
  ∃ A cO c O L, e = .returned (.tuple #[.slice (some ⟨w.heap.size, 0, none⟩) O.length cO, .slice A L.length c]) ∧ Bt.val O = Bt.val la / Bt.val lb ∧ Bt.val L = Bt.val la % Bt.val lb ∧ O.length = la.length ∧ L.length = la.length ∧
    Reads w' w'.heap.size 1 (some ⟨w.heap.size, 0, none⟩) O.length (O.map Value.bool) ∧ Reads w' w'.heap.size 1 A L.length (L.map Value.bool) ∧ Below w.heap.size w w'

theorem bcells_set (O : List Bool) (i : Nat) (b : Bool) : (bcells O).setIfInBounds i (.bool b) = bcells (O.set i b) := by
  unfold bcells
  simp [List.map_set]

set_option maxHeartbeats 1600000 in
set_option maxRecDepth 100000 in
theorem quot_any (A B : Option Addr) (la lb : List Bool) (ca cb : Nat) (w : World) (ha : Reads w w.heap.size 1 A la.length (la.map Value.bool)) (hb : Reads w w.heap.size 1 B lb.length (lb.map Value.bool))
    (la1 : la.length ≤ 100000) (lb1 : lb.length ≤ 100000) (hv : 0 < Bt.val lb) :
    Calls Try.prog 10 #[.slice A la.length ca, .slice B lb.length cb] w (QuotPost la lb w) := by
  obtain ⟨i0, hi, hz0, hz1, hz2⟩ := info_parts Try.info4
  have hmk := run_make (P := Try.prog) w 30 4 i0 (.bool false) Try.underlying30 hi hz0 .i64 .i64 la.length la.length (by omega) (by omega) (by rw [hz2]; omega) (by omega)
  rw [hz1] at hmk
  simp only [Int.toNat_natCast, Nat.mul_one, Value.cells] at hmk
  have hcl : madeCells #[Value.bool false] la.length = bcells (List.replicate la.length false) := by
    apply Array.toList_inj.1
    rw [madeBools]; simp [bcells]
  rw [hcl] at hmk
  have HV := Lib.hid hv
  clear hv hcl
  go_enter Try.func10, Try.ntmps10
  go_wp2
  go_loopw [7, 8] (fun v jv wr => ∃ j : Int, jv = .int .i64 j ∧ QuotRel la (Bt.val lb) w v j wr) (fun _ jv _ => (intOf jv + 1).toNat)
  case atStart =>
    refine ⟨_, rfl, none, 0, List.replicate la.length false, [], rfl, by omega, by omega, ?_, Blk.new _ _ _, World.ownsRow_nil _ _ _ _, (Below.refl _ _).alloc (Nat.le_refl _) _⟩
    have e : ((la.length : Int) - 1 + 1).toNat = la.length := by omega
    rw [e]
    exact ⟨by simp, by simp, by simp, by simp, by simp⟩
  case round =>
    obtain ⟨j, rfl, A1, c1, O, L, rfl, hj1, hj2, hq, hblk, hown, hbel⟩ := hrel
    clear hmk
    have HQ := Lib.hid hq
    have HK := Lib.hid hblk
    have HO := Lib.hid hown
    have HB := Lib.hid hbel
    have hsz := hblk.lt
    have hqo := hq.1
    have hql : L.length ≤ la.length := by have := hq.2.2.2.1; omega
    by_cases hj : 0 ≤ j
    · obtain ⟨i, rfl⟩ := Int.eq_ofNat_of_zero_le hj
      have hil : i < la.length := by omega
      obtain ⟨b, off, rfl, hbb, hc⟩ := (ha.below hbel (Nat.le_refl _)).addr (by omega)
      have hcell := hc i (.bool la[i]) (by simp [hil])
      have RB := Lib.hid (hb.below hbel (Nat.le_refl _))
      have RL := Lib.hid ((Reads.of_own hown).alloc (Nat.le_refl _) (.cells #[.bool la[i]] 4))
      have HLit := Lib.hid (World.ownsRow_lit (base := wr.heap.size) (e := 4) (size := 1) wr #[.bool la[i]] 1 (Nat.le_refl _) (by unfold maxLen; omega) rfl)
      have HQO := Lib.hid hqo
      clear hc hq hown hbel ha hb hblk hqo
      go_wp2_with (at_builtin; refine wpList_appN _ rfl _ _ 30 rfl wr.heap.size 4 i0 (.bool false) 1 1 Try.underlying30 hi hz0 hz1 hz2 rfl (by decide) _ _ _ rfl HLit.out _ _ _ _ _ rfl RL.out (oneCell_bools _) ?c1 ?c2 ?c3 ?_)
      case c1 => unfold maxLen; omega
      case c2 => omega
      intro v' w1 hown1 hb1
      obtain ⟨L1, hL1⟩ : ∃ L1, L1 = la[i] :: L := ⟨_, rfl⟩
      have hle : 1 + L.length = L1.length := by rw [hL1]; simp; omega
      have hmp : [Value.bool la[i]] ++ L.map Value.bool = L1.map Value.bool := by rw [hL1]; rfl
      have hown1' : w1.ownsRow wr.heap.size 4 1 v' L1.length (L1.map Value.bool) := by rw [← hle, ← hmp]; exact hown1
      obtain ⟨A2, c2, rfl⟩ := ownsRow_len hown1'
      have hll : L1.length ≤ 100001 := by omega
      have HL1 := Lib.hid hL1
      have HO1 := Lib.hid hown1'
      have hsz1 := hb1.size
      simp at hsz1
      have HB1 := Lib.hid (((Below.refl wr.heap.size wr).alloc (Nat.le_refl _) (.cells #[.bool la[i]] 4)).trans hb1)
      clear hown1 hown1' hle hmp hL1 hb1
      have e1 : ((i : Int) + 1).toNat = i + 1 := by omega
      have HQ' : Hid (QuotIs la (Bt.val lb) (i + 1) O L) := by have := HQ.out; rw [e1] at this; exact Lib.hid this
      clear HQ e1
      by_cases hcmp : Bt.val lb ≤ Bt.val L1
      · have hpos := cmpN_nonneg hcmp
        have HC := Lib.hid hcmp
        clear hcmp
        have RB1 := Lib.hid ((RB.out.below HB1.out (by omega)).more (B' := w1.heap.size) (by omega))
        go_wp2_with fail
        refine (order_any A2 B L1 lb c2 cb w1.heap.size w1 (Reads.of_own HO1.out) RB1.out (by omega) (by omega)).mono ?_
        rintro e w' ⟨rfl, rfl⟩
        go_wp2_with fail
        refine (minus_any A2 B L1 lb c2 cb w1 (Reads.of_own HO1.out) RB1.out (by omega) (by omega) HC.out).mono ?_
        rintro e w2 ⟨A3, c3, L3, rfl, hl3, ho3, hb3⟩
        have HL3 := Lib.hid hl3
        have HO3 := Lib.hid (ownsRow_base ho3 (base' := w.heap.size + 1) (by omega))
        have hk2 := (HK.out.below HB1.out (by omega)).below hb3 (by omega)
        have HB3 := Lib.hid (HB.out.trans ((HB1.out.mono (by omega)).trans (hb3.mono (by omega))))
        have hO : i < O.length := by have := HQO.out; omega
        have d0 := hk2.cell i
        have d1 : (bcells O)[i]? = some (.bool O[i]) := by simp [bcells, hO]
        rw [d1] at d0
        have d2 := hk2.frozen i
        have HK2 := Lib.hid hk2
        have HC3 := Lib.hid hl3.1
        clear hl3 ho3 hb3 hk2 d1
        go_wp2
        go_roundw
        case rel =>
          refine ⟨_, rfl, A3, c3, O.set i true, L3, rfl, by omega, by omega, ?_, ?_, ?_, ?_⟩
          · rw [show ((i : Int) - 1 + 1).toNat = i by omega]
            have e := HL3.out
            exact quot_more hil HV.out HQ'.out (by rw [← HL1.out]; exact HC.out) (by rw [e.1, HL1.out]) (by rw [e.2, HL1.out])
          · have := HK2.out.set_ i (.bool true)
            rw [bcells_set] at this
            exact this
          · exact ownsRow_setCell HO3.out (by simp) _
          · exact HB3.out.setCell (by simp) _
        case measure => simp [intOf] <;> omega
      · have hneg := cmpN_neg (show Bt.val L1 < Bt.val lb by omega)
        have HC := Lib.hid hcmp
        clear hcmp
        have RB1 := Lib.hid ((RB.out.below HB1.out (by omega)).more (B' := w1.heap.size) (by omega))
        go_wp2_with fail
        refine (order_any A2 B L1 lb c2 cb w1.heap.size w1 (Reads.of_own HO1.out) RB1.out (by omega) (by omega)).mono ?_
        rintro e w' ⟨rfl, rfl⟩
        go_wp2
        go_roundw
        case rel =>
          refine ⟨_, rfl, A2, c2, O, L1, rfl, by omega, by omega, ?_, HK.out.below HB1.out (by omega), ownsRow_base HO1.out (by omega), HB.out.trans (HB1.out.mono (by omega))⟩
          rw [show ((i : Int) - 1 + 1).toNat = i by omega, HL1.out]
          exact quot_less hil HV.out HQ'.out (by rw [← HL1.out]; have := HC.out; omega)
        case measure => simp [intOf] <;> omega
    · clear hq hown hblk hbel hqo
      go_wp2
      go_ret2
      have e0 : (j + 1).toNat = 0 := by omega
      have hq := HQ.out
      rw [e0] at hq
      obtain ⟨q1, q2, q3, q4, q5⟩ := hq
      simp at q3 q4 q5
      refine ⟨A1, la.length, c1, O, L, ?_, q3, q5, q1, q4, reads_blk O HK.out, Reads.of_own HO.out, HB.out⟩
      rw [q1]; rfl

end Go.Proofs.Ytfenbjffjeidmaa
