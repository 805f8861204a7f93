/- marks.At and marks.Of, walked. (with what it needs) -/
import Derived.Test.YtkgekhabafjpiabM08
import Derived.BigRegion
namespace Go.Proofs.Ytkgekhabafjpiab
open Go.RowKit
set_option linter.unusedSimpArgs false
set_option linter.unusedVariables false

theorem tchk_is (A : Option Addr) (c B n : Nat) (l : List Trn) (hn : l.length = n) (fin e0 : Int) (he : turnsE l fin = e0) (w : World) (hr : Reads w B 2 A n (cellsT l)) (hB : B ≤ w.heap.size) :
    Calls Try.prog 28 #[.slice A n c, .int .i64 fin] w fun e w' => e = .returned (.int .i64 e0) ∧ Below w.heap.size w w' := by
  subst he
  unfold turnsE
  rw [hn]
  by_cases h1 : 64 < n
  · rw [if_pos h1]; exact tchk_large A n c fin h1 w
  · rw [if_neg h1]
    by_cases h2 : wi fin 0 1073741824 = true
    · rw [if_pos h2]
      obtain ⟨f0, f1⟩ := wi_true.1 h2
      rcases Nat.eq_zero_or_pos n with h3 | h3
      · subst h3; exact tchk_nil A c fin f0 f1 w
      · exact tchk_run A c B n l hn fin (by omega) h3 f0 f1 _ rfl w hr hB
    · rw [if_neg h2]; exact tchk_end A n c fin (by omega) (wi_false.1 (by simpa using h2)) w






















































































































































end Go.Proofs.Ytkgekhabafjpiab

namespace Go.Proofs.Ytkgekhabafjpiab
open Go.RowKit
set_option linter.unusedSimpArgs false
set_option linter.unusedVariables false

theorem turn_info : (Try.prog.info? 44).map (fun i => (i.zero, i.size, i.bytes)) = some (some (.agg #[.int .i64 0, .bool false]), 2, 16) := by kernel_rfl
theorem Env.belowBm {w0 W W' : World} {l : List (Nat × TypeId × Array Value)} {B : Nat} (h : Env w0 W l) (hb : Below B W W') (h0 : w0.heap.size ≤ B) (hl : ∀ x ∈ l, x.1 < B) : Env w0 W' l :=
  ⟨h.1.trans (hb.mono h0), fun x hx => ⟨(h.2 x hx).1, (h.2 x hx).2.below hb (hl x hx)⟩⟩
theorem Env.set_hd' {w0 W : World} {l : List (Nat × TypeId × Array Value)} {g : Nat} {t : TypeId} {cs : Array Value} (h : Env w0 W ((g, t, cs) :: l)) (hd : ∀ x ∈ l, x.1 ≠ g) (i : Nat) (u : Value) :
    Env w0 (W.setCell ⟨g, i, none⟩ u) ((g, t, cs.setIfInBounds i u) :: l) := by
  have hg := (h.2 _ (List.mem_cons_self ..)).1
  refine ⟨h.1.setCell hg _, fun x hx => ?_⟩
  rcases List.mem_cons.1 hx with rfl | hx
  · exact ⟨hg, h.hd.set_ i u⟩
  · have := h.2 x (List.mem_cons_of_mem _ hx)
    exact ⟨this.1, this.2.far (p := ⟨g, i, none⟩) (hd x hx) u⟩
theorem ownsRow_atm {w : World} {base : Nat} {e : TypeId} {size n : Nat} {v : Value} {xs : List Value} (h : w.ownsRow base e size v n xs) (hn : 0 < n) :
    ∃ g c, v = .slice (some ⟨g, 0, none⟩) n c ∧ base ≤ g ∧ g < w.heap.size ∧ n ≤ c ∧ c ≤ maxLen ∧ ∀ k u, xs[k]? = some u → w.cell? ⟨g, k, none⟩ = some u := by
  have hc := fun (g : Nat) (cap : Nat) (hv : v = .slice (some ⟨g, 0, none⟩) n cap) => h.cells (g := g) (by rw [hv]; rfl)
  rcases h.2 with ⟨_, h0⟩ | ⟨g, cap, cur, hv, hb, hg, hnc, hm, hs, hx⟩
  · omega
  · exact ⟨g, cap, hv, hb, (Array.getElem?_eq_some_iff.1 hg).1, hnc, hm, fun k u hu => by
      have := hc g cap hv k u hu
      by_cases hk : k = 0
      · subst hk; simpa [Addr.add] using this
      · simpa [Addr.add, hk] using this⟩

set_option maxRecDepth 100000 in
set_option maxHeartbeats 2000000 in
theorem mof_err (A : Option Addr) (c B n : Nat) (l : List Trn) (hn : l.length = n) (fin e : Int) (he : turnsE l fin = e) (hz : e ≠ 0) (w : World) (hr : Reads w B 2 A n (cellsT l)) (hB : B ≤ w.heap.size) :
    Calls Try.prog 14 #[.slice A n c, .int .i64 fin] w fun e' w' => e' = .returned (.tuple #[.agg #[.int .i64 0, .int .i64 0, .int .i64 0], .int .i64 e]) ∧ Below w.heap.size w w' := by
  have HN := Lib.hid hn
  have HE := Lib.hid he
  have HR := Lib.hid hr
  have HB := Lib.hid hB
  have E := Lib.hid ((Env.start w).lay #[.int .i64 0, .int .i64 0, .int .i64 0] 51)
  clear hn he hr hB
  go_enter Try.func14, Try.ntmps14
  go_wp2_with fail
  refine (tchk_is A c B n l HN.out fin _ HE.out _ (HR.out.alloc HB.out _) (by have := HB.out; simp; omega)).mono ?_
  rintro e' w1 ⟨rfl, hb1⟩
  have E1 := Lib.hid (E.out.below hb1)
  clear hb1
  have p0 := E1.out.hd.lt
  have f0 := E1.out.hd.frozen 0
  have f1 := E1.out.hd.frozen 1
  have f2 := E1.out.hd.frozen 2
  have a0 := E1.out.hd.cell 0
  have a1 := E1.out.hd.cell 1
  have a2 := E1.out.hd.cell 2
  simp at a0 a1 a2
  go_wp2
  refine bodyPost_ret (v := .tuple #[.agg #[.int .i64 0, .int .i64 0, .int .i64 0], .int .i64 e]) (by simp [results, Try.results14, go_sem, *]) rfl ⟨rfl, ?_⟩
  exact ((E1.out.bel.setCell (by simp) _).setCell (by simp) _).setCell (by simp) _

theorem TurnsAt.alloc {w : World} {b off n : Nat} {l : List Trn} (h : TurnsAt w b off n l) (hb : b < w.heap.size) (o : Obj) : TurnsAt (w.alloc o) b off n l :=
  fun k hk => ⟨(World.cell?_alloc_lt w o ⟨b, _, none⟩ hb).trans (h k hk).1, (World.cell?_alloc_lt w o ⟨b, _, none⟩ hb).trans (h k hk).2⟩
theorem TurnsAt.setCell {w : World} {b off n : Nat} {l : List Trn} (h : TurnsAt w b off n l) {p : Addr} (hp : p.block ≠ b) (u : Value) : TurnsAt (w.setCell p u) b off n l :=
  fun k hk => ⟨(World.cell?_setCell_other w p ⟨b, _, none⟩ u (fun e => hp (by rw [e]))).trans (h k hk).1, (World.cell?_setCell_other w p ⟨b, _, none⟩ u (fun e => hp (by rw [e]))).trans (h k hk).2⟩
theorem TurnsAt.drewN {w : World} {b off n : Nat} {l : List Trn} (h : TurnsAt w b off n l) (d : Nat) : TurnsAt (w.drewN d) b off n l := h
theorem withEnd_len (l : List Trn) (fin : Int) : (withEnd l fin).length = l.length + 1 := by simp [withEnd]

def times (n k : Nat) : Int := ((min k n + 1) / 2 : Nat)

set_option maxRecDepth 100000 in
set_option maxHeartbeats 4000000 in
theorem mof_ok (A : Option Addr) (c B n : Nat) (l : List Trn) (hn : l.length = n) (fin : Int) (he : turnsE l fin = 0) (hc : n ≤ c) (hm : c ≤ maxLen) (w : World) (hr : Reads w B 2 A n (cellsT l)) (hB : B ≤ w.heap.size) :
    Calls Try.prog 14 #[.slice A n c, .int .i64 fin] w fun e' w' => e' = .returned (.tuple #[.agg #[.int .i64 (times n (n + 1)), .int .i64 (badT (withEnd l fin) (n + 1)), .int .i64 (goodT (withEnd l fin) (n + 1))], .int .i64 0]) ∧ Below w.heap.size w w' := by
  obtain ⟨i0, hi, hz0, hz1, hz2⟩ := info_parts turn_info
  have hfit := turnsE_zero he
  have h64 : n ≤ 64 := by have := hfit.2.2.1; omega
  have f0 := hfit.1
  have f1 := hfit.2.1
  have HFI := Lib.hid hfit
  have HN := Lib.hid hn
  have HE := Lib.hid he
  have HR := Lib.hid hr
  have HB := Lib.hid hB
  have E := Lib.hid ((Env.start w).lay #[.int .i64 0, .int .i64 0, .int .i64 0] 51)
  clear hn he hr hB hfit
  go_enter Try.func14, Try.ntmps14
  go_wp2_with fail
  refine (tchk_is A c B n l HN.out fin _ HE.out _ (HR.out.alloc HB.out _) (by have := HB.out; simp; omega)).mono ?_
  rintro e' w1 ⟨rfl, hb1⟩
  have E1 := Lib.hid ((E.out.below hb1).lay #[.int .i64 0, .int .i64 0, .int .i64 0] 51)
  have HS1 := Lib.hid hb1.size
  have HR1 := Lib.hid (HR.out.below E1.out.bel HB.out)
  clear hb1
  go_wp2_with (at_builtin; refine wpList_appN _ rfl _ _ 36 rfl (w1.heap.size + 1) 44 i0 (.agg #[.int .i64 0, .bool false]) 2 16 Try.underlying36 hi hz0 hz1 hz2 rfl (by decide) (.slice none 0 0) 0 [] rfl (World.ownsRow_nil _ _ _ _) _ _ _ _ _ rfl HR1.out (oneCell_turns l) ?c1 ?c2 ?c3 ?_)
  case c1 => unfold maxLen; omega
  case c2 => omega
  case c3 => simp
  intro v2 w2 hown2 hb2
  have E2 := Lib.hid (E1.out.belowBm hb2 (by have := HS1.out; simp at this; omega) (by have := HS1.out; simp at this ⊢; omega))
  have HO2 := Lib.hid hown2
  have HS2 := Lib.hid hb2.size
  clear hown2 hb2 HR1
  have HRE := Lib.hid (show Reads (w2.alloc (.cells #[.int .i64 fin, .bool false] 44)) (w2.heap.size + 1) 2 (some ⟨w2.heap.size, 0, none⟩) 1 (cellsT [(fin, false)]) from
    ⟨rfl, fun _ => ⟨_, rfl, by simp, fun j u hj => by
      match j, hj with
      | 0, hj => simp [cellsT] at hj; subst hj; exact (Blk.new w2 44 #[.int .i64 fin, .bool false]).cell 0
      | 1, hj => simp [cellsT] at hj; subst hj; exact (Blk.new w2 44 #[.int .i64 fin, .bool false]).cell 1⟩⟩)
  go_wp2_with (at_builtin; refine wpList_appN _ rfl _ _ 36 rfl (w1.heap.size + 1) 44 i0 (.agg #[.int .i64 0, .bool false]) 2 16 Try.underlying36 hi hz0 hz1 hz2 rfl (by decide) _ _ _ rfl (HO2.out.alloc _) _ _ _ _ _ rfl HRE.out (oneCell_turns [(fin, false)]) ?c1 ?c2 ?c3 ?_)
  case c1 => unfold maxLen; omega
  case c2 => omega
  case c3 => have := HS2.out; simp at this ⊢; omega
  intro v3 w3 hown3 hb3
  have E3 := Lib.hid ((E2.out.alloc (.cells #[.int .i64 fin, .bool false] 44)).belowBm hb3 (by have := HS1.out; simp at this; omega) (by have := HS1.out; simp at this ⊢; omega))
  have hown3' : w3.ownsRow (w1.heap.size + 1) 44 2 v3 (n + 1) (cellsT (withEnd l fin)) := by
    have e : cellsT (withEnd l fin) = [] ++ cellsT l ++ cellsT [(fin, false)] := by unfold withEnd; rw [cellsT_append]; simp
    rw [e]
    simpa using hown3
  obtain ⟨g, c3, rfl, hgb, hgw, hc3, hm3, hcell⟩ := ownsRow_atm hown3' (by omega)
  have HAT := Lib.hid (show TurnsAt w3 g 0 (n + 1) (withEnd l fin) from fun k hk => by
    obtain ⟨x, y⟩ := cellsT_at (withEnd l fin) k (by unfold withEnd; rw [List.length_append]; have := HN.out; simp; omega)
    exact ⟨by simpa using hcell _ _ x, by simpa using hcell _ _ y⟩)
  clear hown3 hown3' hcell hb3 HRE HO2 E2 E1 E HS2
  have HS1' : w.heap.size < w1.heap.size := by have := HS1.out; simp at this; omega
  go_wp2
  go_loopw [8, 9, 11, 26] (fun la is _ i wr => ∃ k : Nat, k ≤ n + 1 ∧ i = .int .i64 k ∧ la = .int .i64 (lowT (withEnd l fin) k) ∧ (∃ b, is = .bool b ∧ (k ≤ n → b = (k % 2 == 1))) ∧
      Env w wr [(w1.heap.size, 51, #[.int .i64 (times n k), .int .i64 (badT (withEnd l fin) k), .int .i64 (goodT (withEnd l fin) k)]), (w.heap.size, 51, #[.int .i64 0, .int .i64 0, .int .i64 0])] ∧ TurnsAt wr g 0 (n + 1) (withEnd l fin) ∧ g < wr.heap.size) (fun _ _ _ i _ => n + 1 - (intOf i).toNat)
  case atStart => exact ⟨0, Nat.zero_le _, rfl, rfl, ⟨false, rfl, fun _ => rfl⟩, by rw [show times n 0 = 0 by simp [times]]; exact E3.out, HAT.out, hgw⟩
  case round =>
    obtain ⟨k, hk, rfl, rfl, ⟨b, rfl, hbp⟩, hE, hT, hgr⟩ := hrel
    have F := Lib.hid hE
    have T := Lib.hid hT
    clear hE hT
    have q0 := F.out.hd.lt
    have q1 := F.out.tl.hd.lt
    have m0 := F.out.hd.cell 0
    have m1 := F.out.hd.cell 1
    have m2 := F.out.hd.cell 2
    have z0 := F.out.tl.hd.cell 0
    have z1 := F.out.tl.hd.cell 1
    have z2 := F.out.tl.hd.cell 2
    have k0 := F.out.hd.frozen 0
    have k1 := F.out.hd.frozen 1
    have k2 := F.out.hd.frozen 2
    have k3 := F.out.tl.hd.frozen 0
    have k4 := F.out.tl.hd.frozen 1
    have k5 := F.out.tl.hd.frozen 2
    simp at m0 m1 m2 z0 z1 z2
    have hne : w1.heap.size ≠ g := by omega
    have t0 : 0 ≤ times n k := by unfold times; omega
    have t1 : times n k ≤ 40 := by unfold times; omega
    have hlen := HN.out
    by_cases hlt : k < n + 1
    · obtain ⟨x0, x1⟩ := T.out k hlt
      simp only [Nat.zero_add] at x0 x1
      obtain ⟨s0, s1⟩ := HFI.out.step k (by omega)
      obtain ⟨l0, l1⟩ := HFI.out.low k (by omega)
      obtain ⟨b0, b1, b2, b3⟩ := HFI.out.bad k (by omega)
      have HLO := Lib.hid (show lowT (withEnd l fin) (k + 1) = Tm (withEnd l fin) k from rfl)
      have HBS := Lib.hid (show badT (withEnd l fin) (k + 1) = badT (withEnd l fin) k + (if k % 2 = 1 then Tm (withEnd l fin) k - lowT (withEnd l fin) k else 0) from rfl)
      have HGS := Lib.hid (show goodT (withEnd l fin) (k + 1) = goodT (withEnd l fin) k + (if k % 2 = 1 then 0 else Tm (withEnd l fin) k - lowT (withEnd l fin) k) from rfl)
      have HSP := Lib.hid (show Sp (withEnd l fin) k = (if k < n then !(k % 2 == 1) else false) by
        by_cases e : k < n
        · rw [if_pos e, Sp_with (by omega)]; exact (stepE_ok (HFI.out.2.2.2 k (by omega))).2.2
        · rw [if_neg e, show k = l.length by omega]; exact Sp_end l fin)
      have HP := Lib.hid (hbp (by omega))
      clear hbp hlen
      rcases Nat.mod_two_eq_zero_or_one k with hpar | hpar
      · have hb : b = false := by rw [HP.out]; simp [hpar]
        subst hb
        have HG1 := Lib.hid (show goodT (withEnd l fin) (k + 1) = goodT (withEnd l fin) k + (Tm (withEnd l fin) k - lowT (withEnd l fin) k) by rw [HGS.out, if_neg (by omega)])
        have HB1 := Lib.hid (show badT (withEnd l fin) (k + 1) = badT (withEnd l fin) k by rw [HBS.out, if_neg (by omega)]; omega)
        have hpn : ((k + 1) % 2 == 1) = true := by simp; omega
        by_cases hkn : k < n
        · have hs : Sp (withEnd l fin) k = true := by rw [HSP.out, if_pos hkn]; simp [hpar]
          rw [hs] at x1
          have HT1 := Lib.hid (show times n (k + 1) = times n k + 1 by unfold times; omega)
          have HPN := Lib.hid hpn
          clear hs hpn hpar HSP HGS HBS HP
          generalize Tm (withEnd l fin) k = t at *
          generalize lowT (withEnd l fin) k = lo at *
          generalize badT (withEnd l fin) k = ba at *
          generalize goodT (withEnd l fin) k = go at *
          generalize times n k = ti at *
          go_wp2
          go_quiet (fail)
          go_wp2
          go_roundw
          case rel =>
            refine ⟨k + 1, hlt, by simp, by rw [HLO.out], ⟨true, rfl, fun _ => HPN.out.symm⟩, ?_, ?_, ?_⟩
            · rw [HT1.out, HG1.out, HB1.out]
              have := (((F.out.set_hd' (by simp; omega) 2 (.int .i64 (go + (t - lo)))).alloc (.cells #[.int .i64 t, .bool true] 44)).drewN nq).set_hd' (by simp; omega) 0 (.int .i64 (ti + 1))
              simpa using this
            · exact (((T.out.setCell (p := ⟨w1.heap.size, 2, none⟩) hne _).alloc (by simpa using hgr) _).drewN nq).setCell (p := ⟨w1.heap.size, 0, none⟩) hne _
            · simp; omega
          case measure => simp [intOf]; omega
        · have hs : Sp (withEnd l fin) k = false := by rw [HSP.out, if_neg hkn]
          rw [hs] at x1
          have HT1 := Lib.hid (show times n (k + 1) = times n k by unfold times; omega)
          have HKN := Lib.hid hkn
          clear hs hpn hpar HSP HGS HBS HP hkn
          generalize Tm (withEnd l fin) k = t at *
          generalize lowT (withEnd l fin) k = lo at *
          generalize badT (withEnd l fin) k = ba at *
          generalize goodT (withEnd l fin) k = go at *
          generalize times n k = ti at *
          go_wp2
          go_quiet (fail)
          go_wp2
          go_roundw
          case rel =>
            refine ⟨k + 1, hlt, by simp, by rw [HLO.out], ⟨false, rfl, fun h => absurd h (by have := HKN.out; omega)⟩, ?_, ?_, ?_⟩
            · rw [HT1.out, HG1.out, HB1.out]
              have := ((F.out.set_hd' (by simp; omega) 2 (.int .i64 (go + (t - lo)))).alloc (.cells #[.int .i64 t, .bool false] 44)).drewN nq
              simpa using this
            · exact ((T.out.setCell (p := ⟨w1.heap.size, 2, none⟩) hne _).alloc (by simpa using hgr) _).drewN nq
            · simp; omega
          case measure => simp [intOf]; omega
      · have hb : b = true := by rw [HP.out]; simp [hpar]
        subst hb
        have HG1 := Lib.hid (show goodT (withEnd l fin) (k + 1) = goodT (withEnd l fin) k by rw [HGS.out, if_pos hpar]; omega)
        have HB1 := Lib.hid (show badT (withEnd l fin) (k + 1) = badT (withEnd l fin) k + (Tm (withEnd l fin) k - lowT (withEnd l fin) k) by rw [HBS.out, if_pos hpar])
        have hpn : ((k + 1) % 2 == 1) = false := by simp; omega
        have hs : Sp (withEnd l fin) k = false := by
          rw [HSP.out]; split
          · simp [hpar]
          · rfl
        rw [hs] at x1
        have HT1 := Lib.hid (show times n (k + 1) = times n k by unfold times; omega)
        have HPN := Lib.hid hpn
        clear hs hpn hpar HSP HGS HBS HP
        generalize Tm (withEnd l fin) k = t at *
        generalize lowT (withEnd l fin) k = lo at *
        generalize badT (withEnd l fin) k = ba at *
        generalize goodT (withEnd l fin) k = go at *
        generalize times n k = ti at *
        go_wp2
        go_quiet (fail)
        go_wp2
        go_roundw
        case rel =>
          refine ⟨k + 1, hlt, by simp, by rw [HLO.out], ⟨false, rfl, fun _ => HPN.out.symm⟩, ?_, ?_, ?_⟩
          · rw [HT1.out, HG1.out, HB1.out]
            have := ((F.out.set_hd' (by simp; omega) 1 (.int .i64 (ba + (t - lo)))).alloc (.cells #[.int .i64 t, .bool false] 44)).drewN nq
            simpa using this
          · exact ((T.out.setCell (p := ⟨w1.heap.size, 1, none⟩) hne _).alloc (by simpa using hgr) _).drewN nq
          · simp; omega
        case measure => simp [intOf]; omega
    · have hkn : k = n + 1 := by omega
      have HK := Lib.hid hkn
      have hkn' : n + 1 ≤ k := by omega
      clear hkn hlen hbp
      generalize hx : times n k = ti at *
      generalize hy : badT (withEnd l fin) k = ba at *
      generalize hz : goodT (withEnd l fin) k = go at *
      have HX := Lib.hid (show times n (n + 1) = ti by rw [← HK.out]; exact hx)
      have HY := Lib.hid (show badT (withEnd l fin) (n + 1) = ba by rw [← HK.out]; exact hy)
      have HZ := Lib.hid (show goodT (withEnd l fin) (n + 1) = go by rw [← HK.out]; exact hz)
      clear hx hy hz
      go_wp2
      refine bodyPost_ret (v := .tuple #[.agg #[.int .i64 ti, .int .i64 ba, .int .i64 go], .int .i64 0]) (by simp [results, Try.results14, go_sem, *]) rfl ⟨by rw [HX.out, HY.out, HZ.out], ?_⟩
      exact ((F.out.bel.setCell (by simp <;> omega) _).setCell (by simp <;> omega) _).setCell (by simp <;> omega) _
end Go.Proofs.Ytkgekhabafjpiab
