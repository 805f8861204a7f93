/- peers.Hear of a beat that is let through, walked. (with what it needs) -/
import Derived.Test.YtcikljcjhijjdabGreatM32
import Derived.Test.YtcikljcjhijjdabGreatM31
import Derived.Deep.RegionHeld3
namespace Go.Proofs.YtcikljcjhijjdabGreat
open Go.RowKit Go.Lib
set_option linter.unusedSimpArgs false
set_option linter.unusedVariables false

set_option maxHeartbeats 4000000 in
set_option maxRecDepth 100000 in
theorem hear_new (A : Option Addr) (c B n : Nat) (l : List PeerT) (hm : n ≤ maxLen) (bid : ByteArray) (hbid : bid.size ≤ maxLen) (inc seq now : Int) (w : World) (hp : Peers w B A n l) (hB : B ≤ w.heap.size) (he : peersE l = 0) (hb : beatE bid inc seq = 0) (hn0 : 0 ≤ now) (hn1 : now ≤ 1073741824) (k : Nat) (hk : k < l.length) (hid : pid (l[k]'hk) = bid) (hge : plast (l[k]'hk) ≤ now) (hnw : Newer (pgi (l[k]'hk)) (pgs (l[k]'hk)) inc seq) :
    Calls Tryz.prog 54 #[.slice A n c, .agg #[.string bid, .int .i64 inc, .int .i64 seq], .int .i64 now] w (HearIs A l ((l.map Prod.fst).set k (newD (l[k]'hk).1 inc seq (min (now - plast (l[k]'hk)) 16777216) now)) n true w) := by
  have HGE := Lib.hid hge
  have HNW := Lib.hid hnw
  clear hge hnw
  obtain ⟨h6, hgood, hasc⟩ := peersE_zero he
  have hn6 : n ≤ 6 := by rw [← hp.len]; exact h6
  have hfi := find_some A c B n l hasc k hk (by omega)
  rw [hid] at hfi
  have HF := Lib.hid hfi
  have h64 : ∀ p ∈ l, (pvals p).length ≤ 64 := fun p hp => good64 (hgood p hp)
  have hgk := hgood _ (List.getElem_mem hk)
  have HGK := Lib.hid hgk
  have H64 := Lib.hid h64
  have HIDS := Lib.hid (fun p hq => ((hp.ok p hq).2.2.2 : (pid p).size ≤ maxLen))
  have hkn : k < n := by rw [← hp.len]; exact hk
  clear hfi hgood hasc hgk h64 hid
  have HP := Lib.hid hp
  have HBB := Lib.hid hB
  have HN := Lib.hid hp.len
  have E := Lib.hid ((Env.start w).lay #[.string bid, .int .i64 inc, .int .i64 seq] 103)
  clear hp hB
  have HE := Lib.hid he
  have HBE := Lib.hid hb
  clear he hb
  go_enter Tryz.func54, Tryz.ntmps54
  go_wp2_with fail
  refine (pchk_is A c B n l hm _ HE.out _ (HP.out.below E.out.bel HBB.out) (Nat.le_trans HBB.out E.out.bel.size)).mono ?_
  rintro e' w1 ⟨rfl, hb1⟩
  have E1 := Lib.hid (E.out.below hb1)
  clear hb1
  have z0 := E1.out.hd.cell 0
  have z1 := E1.out.hd.cell 1
  have z2 := E1.out.hd.cell 2
  simp at z0 z1 z2
  go_wp2_with fail
  refine (bcheck_any bid hbid inc seq _).mono ?_
  rw [HBE.out]
  rintro e' w2 ⟨rfl, hb2⟩
  have E2 := Lib.hid (E1.out.below hb2)
  clear hb2 z0 z1 z2
  have z0 := E2.out.hd.cell 0
  have z1 := E2.out.hd.cell 1
  have z2 := E2.out.hd.cell 2
  simp at z0 z1 z2
  go_wp2_with fail
  refine (HF.out _ (HP.out.below E2.out.bel HBB.out) (Nat.le_trans HBB.out E2.out.bel.size)).mono ?_
  rintro e' w3 ⟨rfl, hb3⟩
  have E3 := Lib.hid (E2.out.below hb3)
  clear hb3 z0 z1 z2
  go_wp2_with fail
  refine (copied_is A c B n l (by omega) H64.out _ (HP.out.below E3.out.bel HBB.out) (Nat.le_trans HBB.out E3.out.bel.size)).mono ?_
  rintro e' w4 ⟨A4, c4, l4, rfl, hmp, hown, hvo, hb4⟩
  have hl4 : l4.length = n := by have := congrArg List.length hmp; simpa [HN.out] using this
  obtain ⟨g, rfl, hHg, hgl, hrow⟩ := RowP.of_own hown (by omega) hl4
  have E4 := Lib.hid (E3.out.below hb4)
  have hs3 := E3.out.bel.size
  have hk4 : k < l4.length := by omega
  have hq := map_get hmp k hk hk4
  have hids : ∀ p ∈ l4, (pid p).size ≤ maxLen := fun p hp4 => by
    obtain ⟨j, hj, rfl⟩ := List.getElem_of_mem hp4
    have := map_get hmp j (by have := HN.out; omega) hj
    show (l4[j]'hj).1.1.size ≤ maxLen
    rw [this]
    exact HIDS.out _ (List.getElem_mem (by have := HN.out; omega))
  have pc := hrow.cells k hk4
  have HGK4 := Lib.hid (show PeerGood (l4[k]'hk4) by have := HGK.out; unfold PeerGood at this ⊢; rw [show pid (l4[k]'hk4) = pid (l[k]'hk) from congrArg (·.1) hq, show pgi (l4[k]'hk4) = pgi (l[k]'hk) from congrArg (·.2.1.1) hq, show pgs (l4[k]'hk4) = pgs (l[k]'hk) from congrArg (·.2.1.2.1) hq, show pgd (l4[k]'hk4) = pgd (l[k]'hk) from congrArg (·.2.1.2.2) hq, show pcap (l4[k]'hk4) = pcap (l[k]'hk) from congrArg (·.2.2.1) hq, show pvals (l4[k]'hk4) = pvals (l[k]'hk) from congrArg (·.2.2.2.1) hq, show plast (l4[k]'hk4) = plast (l[k]'hk) from congrArg (·.2.2.2.2) hq]; exact this)
  have MP := Lib.hid hmp
  have RW := Lib.hid hrow
  have VO := Lib.hid (show ValsOwn w.heap.size w4 l4 from fun p hp => ownsRow_base (hvo p hp) hs3)
  have IDS := Lib.hid hids
  have HQ := Lib.hid hq
  have hgw : w.heap.size + 1 ≤ g := by have := E3.out.hd.lt; omega
  clear hmp hown hvo hb4 hrow hids hHg hq
  generalize hpk : l4[k]'hk4 = p at *
  have HPK := Lib.hid hpk
  clear hpk
  obtain ⟨c0, c1, c2, c3, c4', c5, c6⟩ := pc
  have hge : plast p ≤ now := by have := HGE.out; rw [show plast p = plast (l[k]'hk) from congrArg (·.2.2.2.2) HQ.out]; exact this
  have hnw : Newer (pgi p) (pgs p) inc seq := by have := HNW.out; rw [show pgi p = pgi (l[k]'hk) from congrArg (·.2.1.1) HQ.out, show pgs p = pgs (l[k]'hk) from congrArg (·.2.1.2.1) HQ.out]; exact this
  have HTK := Lib.hid (take_new (pgi p) (pgs p) (pgd p) inc seq HGK4.out.2.1 (beatE_ok HBE.out) hnw)
  have hg4 := HGK4.out
  clear hnw
  have z0 := E4.out.hd.cell 0
  have z1 := E4.out.hd.cell 1
  have z2 := E4.out.hd.cell 2
  simp at z0 z1 z2
  have f1 := RW.out.frozen (k * 7 + 1)
  have f2 := RW.out.frozen (k * 7 + 2)
  have f3 := RW.out.frozen (k * 7 + 3)
  have hlast0 : 0 ≤ plast p := hg4.2.2.2.1
  obtain ⟨x, hx⟩ : ∃ x, min (now - plast p) 16777216 = x := ⟨_, rfl⟩
  have HWX := Lib.hid (show wi x 0 16777216 = true from wi_true.2 (by omega))
  have HWN := Lib.hid hg4.2.2.1
  have HX := Lib.hid hx
  clear hx hg4
  go_upto_region 17 with fail
  go_region_law (go_simp; go_at_call 88; (with_reducible refine (HTK.out _).mono ?_); rintro e' w9 ⟨rfl, hb9⟩; have hb8 : Below w4.heap.size w4 w9 := Below.thru5 (by repeat (first | (with_reducible exact Below.refl _ _) | (with_reducible refine Below.drew ?_))) hb9; have R9 := RW.out.below hb8 hgl; have pc := R9.cells k hk4; have g1 := R9.frozen (k * 7 + 1); have g2 := R9.frozen (k * 7 + 2); have g3 := R9.frozen (k * 7 + 3); (rw [HPK.out] at pc); obtain ⟨d0, d1, d2, d3, d4, d5, d6⟩ := pc)
  all_goals
    have e0 : p = l4[k]'hk4 := HPK.out.symm
    have V9 := VO.out.below hb8
    have hown := V9 p (by rw [e0]; exact List.getElem_mem hk4)
    have RG := Lib.hid (R9.gate k hk4 inc seq (pgd p) ((p.1.1, (inc, seq, pgd p), p.1.2.2), p.2) (by rw [← e0]))
    have VG := Lib.hid ((V9.upd (k := k) (p' := ((p.1.1, (inc, seq, pgd p), p.1.2.2), p.2)) hown).at3 R9.blk (k * 7 + 1) (k * 7 + 1 + 1) (k * 7 + 1 + 2) (.int .i64 inc) (.int .i64 seq) (.int .i64 (pgd p)))
    have BG := Lib.hid ((((E4.out.bel.trans (hb8.mono E4.out.bel.size)).setCell (p := ⟨g, k * 7 + 1, none⟩) (by show w.heap.size ≤ g; omega) (.int .i64 inc)).setCell (p := ⟨g, k * 7 + 1 + 1, none⟩) (by show w.heap.size ≤ g; omega) (.int .i64 seq)).setCell (p := ⟨g, k * 7 + 1 + 2, none⟩) (by show w.heap.size ≤ g; omega) (.int .i64 (pgd p)))
    clear e0 hown V9 R9 hb8 hb9 d0 d1 d2 d3 d4 d5 d6 g1 g2 g3 c0 c1 c2 c3 c4' c5 c6 z0 z1 z2 f1 f2 f3
    go_upto_region 19 with fail
    generalize hWG : World.setCell (World.setCell (World.setCell w9 _ _) _ _) _ _ = wg at *
    clear hWG
    have hkg : k < (l4.set k ((p.1.1, (inc, seq, pgd p), p.1.2.2), p.2)).length := by simpa using hk4
    have hgg := RG.out.lt
    have pc := RG.out.cells k hkg
    rw [List.getElem_set_self] at pc
    have g4 := RG.out.frozen (k * 7 + 4)
    have g5 := RG.out.frozen (k * 7 + 5)
    have g6 := RG.out.frozen (k * 7 + 6)
    obtain ⟨d0, d1, d2, d3, d4, d5, d6⟩ := pc
    have hov := VG.out ((p.1.1, (inc, seq, pgd p), p.1.2.2), p.2) (List.mem_set hk4 _)
    have hoc := ownsRow_cap hov
    have HRV := Lib.hid (Reads.of_own hov)
    have hwx : min (IntKind.i64.wrap (now - plast p)) 16777216 = x := by rw [show IntKind.i64.wrap (now - plast p) = now - plast p by rw [IntKind.wrap_i64]; omega]; exact HX.out
    have HPU := Lib.hid (show ∀ w', Below wg.heap.size wg w' → Calls Tryz.prog 89 #[.agg #[.int .i64 (pcap p), psl p], .int .i64 (min (IntKind.i64.wrap (now - plast p)) 16777216)] w' (PushedIs (pcap p) (pushV (pcap p) (pvals p) x) w')
      from fun w' h => by
        rw [hwx]
        exact push_any (pcap p) x p.2.1 p.2.2 wg.heap.size (pvals p) hoc.1 hoc.2 HWN.out HWX.out w' (HRV.out.below h (Nat.le_refl _)) h.size)
    have d4' : wg.cell? ⟨g, k * 7 + 4, none⟩ = some (.int .i64 (pcap p)) := d4
    have d5' : wg.cell? ⟨g, k * 7 + 5, none⟩ = some (psl p) := d5
    have d6' : wg.cell? ⟨g, k * 7 + 6, none⟩ = some (.int .i64 (plast p)) := d6
    clear hov hoc d0 d1 d2 d3 d4 d5 d6 hwx
    go_region_law (go_simp; go_at_call 89; (with_reducible refine (HPU.out _ (by repeat (first | (with_reducible exact Below.refl _ _) | (with_reducible refine Below.drew ?_)))).mono ?_); rintro e' w10 ⟨A5, c5', rfl, hown5, hb10⟩; have hb11 : Below wg.heap.size wg w10 := Below.thru5 (by repeat (first | (with_reducible exact Below.refl _ _) | (with_reducible refine Below.drew ?_))) hb10; have R10 := RG.out.below hb11 hgg; have q4 := R10.frozen (k * 7 + 4); have q5 := R10.frozen (k * 7 + 5); have q6 := R10.frozen (k * 7 + 6); have pc := R10.cells k hkg; obtain ⟨t0, t1, t2, t3, t4, t5, t6⟩ := pc)
    all_goals
      have R18 := R10.win k hkg (pcap p) A5 c5' (pushV (pcap p) (pvals p) x) ((p.1.1, (inc, seq, pgd p), pcap p, pushV (pcap p) (pvals p) x, plast p), A5, c5') (by rw [List.getElem_set_self])
      have R20 := Lib.hid (R18.last_ k (by simpa using hk4) now ((p.1.1, (inc, seq, pgd p), pcap p, pushV (pcap p) (pvals p) x, now), A5, c5') (by rw [List.getElem_set_self]))
      have V20 := Lib.hid ((((VG.out.below hb11).upd (k := k) (p' := ((p.1.1, (inc, seq, pgd p), pcap p, pushV (pcap p) (pvals p) x, plast p), A5, c5')) (ownsRow_base hown5 BG.out.size)).upd (k := k) (p' := ((p.1.1, (inc, seq, pgd p), pcap p, pushV (pcap p) (pvals p) x, now), A5, c5')) (ownsRow_base hown5 BG.out.size)).at3 R10.blk (k * 7 + 4) (k * 7 + 4 + 1) (k * 7 + 6) (.int .i64 (pcap p)) (.slice A5 (pushV (pcap p) (pvals p) x).length c5') (.int .i64 now))
      have B20 := Lib.hid ((((BG.out.trans (hb11.mono BG.out.size)).setCell (p := ⟨g, k * 7 + 4, none⟩) (by show w.heap.size ≤ g; omega) (.int .i64 (pcap p))).setCell (p := ⟨g, k * 7 + 4 + 1, none⟩) (by show w.heap.size ≤ g; omega) (.slice A5 (pushV (pcap p) (pvals p) x).length c5')).setCell (p := ⟨g, k * 7 + 6, none⟩) (by show w.heap.size ≤ g; omega) (.int .i64 now))
      have hidp : (pid p).size ≤ maxLen := IDS.out p (by rw [← HPK.out]; exact List.getElem_mem hk4)
      have P20 := Lib.hid (Peers.of_row R20.out V20.out (ids_set (ids_set (ids_set IDS.out k _ (by exact hidp)) k _ (by exact hidp)) k _ (by exact hidp)))
      have hmd : ((((l4.set k ((p.1.1, (inc, seq, pgd p), p.1.2.2), p.2)).set k ((p.1.1, (inc, seq, pgd p), pcap p, pushV (pcap p) (pvals p) x, plast p), A5, c5')).set k ((p.1.1, (inc, seq, pgd p), pcap p, pushV (pcap p) (pvals p) x, now), A5, c5'))).map Prod.fst = (l.map Prod.fst).set k (newD (l[k]'hk).1 inc seq (min (now - plast (l[k]'hk)) 16777216) now) := by
        rw [List.set_set, List.set_set, List.map_set, MP.out, ← HQ.out]
        have : plast (l[k]'hk) = plast p := (congrArg (·.2.2.2.2) HQ.out).symm
        rw [this, HX.out]
        rfl
      have MD := Lib.hid hmd
      clear hmd R18 R10 hown5 hb10 hb11 t0 t1 t2 t3 d4' d5' d6' g4 g5 g6 hidp
      go_wp2
      refine bodyPost_ret (v := .tuple #[.slice (some ⟨g, 0, none⟩) n c4, .bool true, .int .i64 0]) (by simp [results, Tryz.results54, go_sem]) rfl ⟨_, _, _, rfl, MD.out, P20.out, B20.out, ⟨RW.out.2.1, RW.out.2.2.1⟩, keeps_own (by omega) V20.out⟩

end Go.Proofs.YtcikljcjhijjdabGreat

namespace Go.Proofs.YtcikljcjhijjdabGreat
open Go.RowKit Go.Lib
set_option linter.unusedSimpArgs false
set_option linter.unusedVariables false

/-- a whole peer stored into a row -/
theorem RowP.all {w : World} {g cap n : Nat} {l : List PeerT} (h : RowP w g cap n l) (k : Nat) (hk : k < l.length) (p' : PeerT) :
    RowP (((((((w.setCell ⟨g, k * 7, none⟩ (.string (pid p'))).setCell ⟨g, k * 7 + 1, none⟩ (.int .i64 (pgi p'))).setCell ⟨g, k * 7 + 2, none⟩ (.int .i64 (pgs p'))).setCell ⟨g, k * 7 + 3, none⟩ (.int .i64 (pgd p'))).setCell ⟨g, k * 7 + 4, none⟩ (.int .i64 (pcap p'))).setCell ⟨g, k * 7 + 5, none⟩ (psl p')).setCell ⟨g, k * 7 + 6, none⟩ (.int .i64 (plast p'))) g cap n (l.set k p') := by
  have h0 := h.set_ k 0 (.string (pid p')) ((p'.1.1, (l[k]'hk).1.2), (l[k]'hk).2) hk (by decide) rfl
  have h1 := h0.gate k (by simpa using hk) (pgi p') (pgs p') (pgd p') ((p'.1.1, p'.1.2.1, (l[k]'hk).1.2.2), (l[k]'hk).2) (by rw [List.getElem_set_self])
  have h2 := h1.win k (by simpa using hk) (pcap p') p'.2.1 p'.2.2 (pvals p') ((p'.1.1, p'.1.2.1, p'.1.2.2.1, p'.1.2.2.2.1, (l[k]'hk).1.2.2.2.2), p'.2) (by rw [List.getElem_set_self])
  have h3 := h2.last_ k (by simpa using hk) (plast p') p' (by rw [List.getElem_set_self])
  rw [List.set_set, List.set_set, List.set_set] at h3
  exact h3
theorem below_set7 {w W : World} {B g k : Nat} (h : Below B w W) (hg : B ≤ g) (p' : PeerT) :
    Below B w (((((((W.setCell ⟨g, k * 7, none⟩ (.string (pid p'))).setCell ⟨g, k * 7 + 1, none⟩ (.int .i64 (pgi p'))).setCell ⟨g, k * 7 + 2, none⟩ (.int .i64 (pgs p'))).setCell ⟨g, k * 7 + 3, none⟩ (.int .i64 (pgd p'))).setCell ⟨g, k * 7 + 4, none⟩ (.int .i64 (pcap p'))).setCell ⟨g, k * 7 + 5, none⟩ (psl p')).setCell ⟨g, k * 7 + 6, none⟩ (.int .i64 (plast p'))) :=
  ((((((h.setCell hg _).setCell hg _).setCell hg _).setCell hg _).setCell hg _).setCell hg _).setCell hg _
theorem ok_set {w : World} {B : Nat} {l : List PeerT} (h : ∀ p ∈ l, PeerOk w B p) (k : Nat) (p' : PeerT) (hp : PeerOk w B p') : ∀ p ∈ l.set k p', PeerOk w B p := fun q hq => by
  rcases List.mem_or_eq_of_mem_set hq with hq | rfl
  · exact h q hq
  · exact hp

set_option maxHeartbeats 4000000 in
set_option maxRecDepth 100000 in
theorem rhear_beat (A : Option Addr) (c B n : Nat) (l : List PeerT) (hm : n ≤ maxLen) (bid : ByteArray) (inc seq now : Int) (w : World) (hp : Peers w B A n l) (hB : B ≤ w.heap.size) (e0 : Int) (hb : beatE bid inc seq = e0) (hz : e0 ≠ 0) :
    Calls Tryz.prog 56 #[.slice A n c, .agg #[.string bid, .int .i64 inc, .int .i64 seq], .int .i64 now] w (HearNo e0 w) := by
  have HBE := Lib.hid hb
  clear hb
  have HP := Lib.hid hp
  have HBB := Lib.hid hB
  have HN := Lib.hid hp.len
  have E := Lib.hid ((Env.start w).lay #[.string bid, .int .i64 inc, .int .i64 seq] 103)
  clear hp hB
  go_enter Tryz.func56, Tryz.ntmps56
  go_wp2_with fail
  refine (rbeat_any bid inc seq _).mono ?_
  rw [HBE.out]
  rintro e' w2 ⟨rfl, hb2⟩
  have E2 := Lib.hid (E.out.below hb2)
  clear hb2
  have z0 := E2.out.hd.cell 0
  have z1 := E2.out.hd.cell 1
  have z2 := E2.out.hd.cell 2
  simp at z0 z1 z2
  go_wp2
  all_goals first
    | (exfalso; omega)
    | (refine bodyPost_ret (v := .tuple #[.slice none 0 0, .bool false, .int .i64 e0]) (by simp [results, Tryz.results56, go_sem]) rfl ⟨rfl, E2.out.bel⟩)

set_option maxHeartbeats 4000000 in
set_option maxRecDepth 100000 in
theorem rhear_now (A : Option Addr) (c B n : Nat) (l : List PeerT) (hm : n ≤ maxLen) (bid : ByteArray) (inc seq now : Int) (w : World) (hp : Peers w B A n l) (hB : B ≤ w.heap.size) (hb : beatE bid inc seq = 0) (hn : now < 0 ∨ 1073741824 < now) :
    Calls Tryz.prog 56 #[.slice A n c, .agg #[.string bid, .int .i64 inc, .int .i64 seq], .int .i64 now] w (HearNo 1 w) := by
  have hwf : wi now 0 1073741824 = false := wi_false.2 hn
  have HBE := Lib.hid hb
  clear hb
  have HP := Lib.hid hp
  have HBB := Lib.hid hB
  have HN := Lib.hid hp.len
  have E := Lib.hid ((Env.start w).lay #[.string bid, .int .i64 inc, .int .i64 seq] 103)
  clear hp hB
  go_enter Tryz.func56, Tryz.ntmps56
  go_wp2_with fail
  refine (rbeat_any bid inc seq _).mono ?_
  rw [HBE.out]
  rintro e' w2 ⟨rfl, hb2⟩
  have E2 := Lib.hid (E.out.below hb2)
  clear hb2
  have z0 := E2.out.hd.cell 0
  have z1 := E2.out.hd.cell 1
  have z2 := E2.out.hd.cell 2
  simp at z0 z1 z2
  go_wp2_with fail
  refine (rtime_any now _).mono ?_
  rw [hwf]
  rintro e' w' ⟨rfl, rfl⟩
  clear hwf
  go_wp2
  all_goals first
    | (exfalso; omega)
    | (refine bodyPost_ret (v := .tuple #[.slice none 0 0, .bool false, .int .i64 1]) (by simp [results, Tryz.results56, go_sem]) rfl ⟨rfl, E2.out.bel⟩)

set_option maxHeartbeats 4000000 in
set_option maxRecDepth 100000 in
theorem rhear_none (A : Option Addr) (c B n : Nat) (l : List PeerT) (hm : n ≤ maxLen) (bid : ByteArray) (inc seq now : Int) (w : World) (hp : Peers w B A n l) (hB : B ≤ w.heap.size) (hb : beatE bid inc seq = 0) (hn0 : 0 ≤ now) (hn1 : now ≤ 1073741824) (hno : ∀ j, (hj : j < l.length) → pid (l[j]'hj) ≠ bid) :
    Calls Tryz.prog 56 #[.slice A n c, .agg #[.string bid, .int .i64 inc, .int .i64 seq], .int .i64 now] w (HearNo 4 w) := by
  have HWT := Lib.hid (show wi now 0 1073741824 = true from wi_true.2 ⟨hn0, hn1⟩)
  have HF := Lib.hid (rfind_none A c B n l bid hno hm)
  clear hno
  have HBE := Lib.hid hb
  clear hb
  have HP := Lib.hid hp
  have HBB := Lib.hid hB
  have HN := Lib.hid hp.len
  have E := Lib.hid ((Env.start w).lay #[.string bid, .int .i64 inc, .int .i64 seq] 103)
  clear hp hB
  go_enter Tryz.func56, Tryz.ntmps56
  go_wp2_with fail
  refine (rbeat_any bid inc seq _).mono ?_
  rw [HBE.out]
  rintro e' w2 ⟨rfl, hb2⟩
  have E2 := Lib.hid (E.out.below hb2)
  clear hb2
  have z0 := E2.out.hd.cell 0
  have z1 := E2.out.hd.cell 1
  have z2 := E2.out.hd.cell 2
  simp at z0 z1 z2
  go_wp2_with fail
  refine (rtime_any now _).mono ?_
  rw [HWT.out]
  rintro e' w' ⟨rfl, rfl⟩
  go_wp2_with fail
  refine (HF.out _ (HP.out.below E2.out.bel HBB.out) (Nat.le_trans HBB.out E2.out.bel.size)).mono ?_
  rintro e' w3 ⟨rfl, hb3⟩
  have E3 := Lib.hid (E2.out.below hb3)
  clear hb3 z0 z1 z2
  go_wp2
  all_goals first
    | (exfalso; omega)
    | (refine bodyPost_ret (v := .tuple #[.slice none 0 0, .bool false, .int .i64 4]) (by simp [results, Tryz.results56, go_sem]) rfl ⟨rfl, E3.out.bel⟩)

set_option maxHeartbeats 4000000 in
set_option maxRecDepth 100000 in
theorem rhear_late (A : Option Addr) (c B n : Nat) (l : List PeerT) (hm : n ≤ maxLen) (bid : ByteArray) (inc seq now : Int) (w : World) (hp : Peers w B A n l) (hB : B ≤ w.heap.size) (hb : beatE bid inc seq = 0) (hn0 : 0 ≤ now) (hn1 : now ≤ 1073741824) (hgood : ∀ p ∈ l, PeerGood p) (hasc : Asc6 l) (hn6 : n ≤ 6) (k : Nat) (hk : k < l.length) (hid : pid (l[k]'hk) = bid) (hlt : now < plast (l[k]'hk)) :
    Calls Tryz.prog 56 #[.slice A n c, .agg #[.string bid, .int .i64 inc, .int .i64 seq], .int .i64 now] w (HearNo 1 w) := by
  have HWT := Lib.hid (show wi now 0 1073741824 = true from wi_true.2 ⟨hn0, hn1⟩)
  have hfi := rfind_some A c B n l k hk (fun j hj hjk => asc_ne hasc hj hk hjk) hm
  rw [hid] at hfi
  have HF := Lib.hid hfi
  have HGK := Lib.hid (hgood _ (List.getElem_mem hk))
  have HOK := Lib.hid (hp.ok _ (List.getElem_mem hk))
  have hkn : k < n := by rw [← hp.len]; exact hk
  clear hfi hgood hasc hid
  have HBE := Lib.hid hb
  clear hb
  have HP := Lib.hid hp
  have HBB := Lib.hid hB
  have HN := Lib.hid hp.len
  have E := Lib.hid ((Env.start w).lay #[.string bid, .int .i64 inc, .int .i64 seq] 103)
  clear hp hB
  go_enter Tryz.func56, Tryz.ntmps56
  go_wp2_with fail
  refine (rbeat_any bid inc seq _).mono ?_
  rw [HBE.out]
  rintro e' w2 ⟨rfl, hb2⟩
  have E2 := Lib.hid (E.out.below hb2)
  clear hb2
  have z0 := E2.out.hd.cell 0
  have z1 := E2.out.hd.cell 1
  have z2 := E2.out.hd.cell 2
  simp at z0 z1 z2
  go_wp2_with fail
  refine (rtime_any now _).mono ?_
  rw [HWT.out]
  rintro e' w' ⟨rfl, rfl⟩
  go_wp2_with fail
  refine (HF.out _ (HP.out.below E2.out.bel HBB.out) (Nat.le_trans HBB.out E2.out.bel.size)).mono ?_
  rintro e' w3 ⟨rfl, hb3⟩
  have E3 := Lib.hid (E2.out.below hb3)
  have hBo : B ≤ w3.heap.size := Nat.le_trans HBB.out E3.out.bel.size
  obtain ⟨b, off, rfl, hb, hcs⟩ := (HP.out.below E3.out.bel HBB.out).addr (by omega)
  obtain ⟨c0, c1, c2, c3, c4, c5, c6⟩ := hcs k hk
  generalize hpk : l[k]'hk = p at *
  have HPK := Lib.hid hpk
  have hbl : b < w3.heap.size := Nat.lt_of_lt_of_le hb hBo
  clear hb3 z0 z1 z2 hcs hpk
  go_wp2
  all_goals first
    | (exfalso; omega)
    | (refine bodyPost_ret (v := .tuple #[.slice none 0 0, .bool false, .int .i64 1]) (by simp [results, Tryz.results56, go_sem]) rfl ⟨rfl, E3.out.bel.alloc E3.out.bel.size _⟩)

set_option maxHeartbeats 4000000 in
set_option maxRecDepth 100000 in
theorem rhear_old (A : Option Addr) (c B n : Nat) (l : List PeerT) (hm : n ≤ maxLen) (bid : ByteArray) (inc seq now : Int) (w : World) (hp : Peers w B A n l) (hB : B ≤ w.heap.size) (hb : beatE bid inc seq = 0) (hn0 : 0 ≤ now) (hn1 : now ≤ 1073741824) (hgood : ∀ p ∈ l, PeerGood p) (hasc : Asc6 l) (hn6 : n ≤ 6) (k : Nat) (hk : k < l.length) (hid : pid (l[k]'hk) = bid) (hge : plast (l[k]'hk) ≤ now) (hnw : ¬ Newer (pgi (l[k]'hk)) (pgs (l[k]'hk)) inc seq) :
    Calls Tryz.prog 56 #[.slice A n c, .agg #[.string bid, .int .i64 inc, .int .i64 seq], .int .i64 now] w (HearIs A l ((l.map Prod.fst).set k (oldD (l[k]'hk).1 (min (pgd (l[k]'hk) + 1) 1073741824))) n false w) := by
  have HWT := Lib.hid (show wi now 0 1073741824 = true from wi_true.2 ⟨hn0, hn1⟩)
  have hfi := rfind_some A c B n l k hk (fun j hj hjk => asc_ne hasc hj hk hjk) hm
  rw [hid] at hfi
  have HF := Lib.hid hfi
  have HGK := Lib.hid (hgood _ (List.getElem_mem hk))
  have HOK := Lib.hid (hp.ok _ (List.getElem_mem hk))
  have hkn : k < n := by rw [← hp.len]; exact hk
  clear hfi hgood hasc hid
  have HBE := Lib.hid hb
  clear hb
  have HP := Lib.hid hp
  have HBB := Lib.hid hB
  have HN := Lib.hid hp.len
  have E := Lib.hid ((Env.start w).lay #[.string bid, .int .i64 inc, .int .i64 seq] 103)
  clear hp hB
  go_enter Tryz.func56, Tryz.ntmps56
  go_wp2_with fail
  refine (rbeat_any bid inc seq _).mono ?_
  rw [HBE.out]
  rintro e' w2 ⟨rfl, hb2⟩
  have E2 := Lib.hid (E.out.below hb2)
  clear hb2
  have z0 := E2.out.hd.cell 0
  have z1 := E2.out.hd.cell 1
  have z2 := E2.out.hd.cell 2
  simp at z0 z1 z2
  go_wp2_with fail
  refine (rtime_any now _).mono ?_
  rw [HWT.out]
  rintro e' w' ⟨rfl, rfl⟩
  go_wp2_with fail
  refine (HF.out _ (HP.out.below E2.out.bel HBB.out) (Nat.le_trans HBB.out E2.out.bel.size)).mono ?_
  rintro e' w3 ⟨rfl, hb3⟩
  have E3 := Lib.hid (E2.out.below hb3)
  have hBo : B ≤ w3.heap.size := Nat.le_trans HBB.out E3.out.bel.size
  obtain ⟨b, off, rfl, hb, hcs⟩ := (HP.out.below E3.out.bel HBB.out).addr (by omega)
  obtain ⟨c0, c1, c2, c3, c4, c5, c6⟩ := hcs k hk
  generalize hpk : l[k]'hk = p at *
  have HPK := Lib.hid hpk
  have hbl : b < w3.heap.size := Nat.lt_of_lt_of_le hb hBo
  clear hb3 z0 z1 z2 hcs hpk
  obtain ⟨m, hmm⟩ : ∃ m, min (pgd p + 1) 1073741824 = m := ⟨_, rfl⟩
  have HTK := Lib.hid (rtake_old (pgi p) (pgs p) (pgd p) inc seq HGK.out.2.1 (beatE_ok HBE.out) hnw m hmm)
  have HMM := Lib.hid hmm
  clear hnw hmm
  have q0 : w.heap.size < w3.heap.size := E3.out.hd.lt
  have E4 := Lib.hid (E3.out.lay (pcells p).toArray 89)
  simp only [pcells] at E4
  have z0 := E3.out.hd.cell 0
  have z1 := E3.out.hd.cell 1
  have z2 := E3.out.hd.cell 2
  simp at z0 z1 z2
  go_wp2_with fail
  refine (HTK.out _).mono ?_
  rintro e' w5 ⟨rfl, hb5⟩
  have E5 := Lib.hid (E4.out.below hb5)
  have K5 := Lib.hid (((E5.out.hd.set_ 1 (.int .i64 (pgi p))).set_ 2 (.int .i64 (pgs p))).set_ 3 (.int .i64 m))
  have B5 := Lib.hid (E5.out.bel)
  clear hb5 z0 z1 z2
  have x0 := E5.out.hd.cell 0
  have x1 := E5.out.hd.cell 1
  have x2 := E5.out.hd.cell 2
  have x3 := E5.out.hd.cell 3
  have x4 := E5.out.hd.cell 4
  have x5 := E5.out.hd.cell 5
  have x6 := E5.out.hd.cell 6
  simp at x0 x1 x2 x3 x4 x5 x6
  have f1 := E5.out.hd.frozen 1
  have f2 := E5.out.hd.frozen 2
  have f3 := E5.out.hd.frozen 3
  have q5 := E5.out.hd.lt
  simp at K5
  have K6 := Lib.hid (K5.out.alloc (.cells #[.int .i64 (pgi p), .int .i64 (pgs p), .int .i64 m] 87))
  have hw3 : w.heap.size ≤ w3.heap.size := E3.out.bel.size
  have B6 := Lib.hid (((B5.out.setCell (p := ⟨w3.heap.size, 1, none⟩) hw3 (.int .i64 (pgi p))).setCell (p := ⟨w3.heap.size, 2, none⟩) hw3 (.int .i64 (pgs p))).setCell (p := ⟨w3.heap.size, 3, none⟩) hw3 (.int .i64 m))
  have B7 := Lib.hid (B6.out.alloc B6.out.size (.cells #[.int .i64 (pgi p), .int .i64 (pgs p), .int .i64 m] 87))
  go_wp2_with fail
  clear x0 x1 x2 x3 x4 x5 x6 f1 f2 f3 c0 c1 c2 c3 c4 c5 c6 B6 B5 K5 E4 E5
  refine (clone_peers b off c B n l (by omega) (by omega) _ (HP.out.below B7.out HBB.out) (Nat.le_trans HBB.out B7.out.size)).mono ?_
  rintro e' w9 ⟨A9, c9, rfl, hown9, hb9⟩
  have hl := HN.out
  obtain ⟨g, rfl, hHg, hgl, hrow⟩ := RowP.of_own hown9 (by omega) hl
  have K9 := Lib.hid (K6.out.below hb9 K6.out.lt)
  have B9 := Lib.hid (B7.out.trans (hb9.mono B7.out.size))
  have RW := Lib.hid hrow
  have pc := hrow.cells k hk
  obtain ⟨y0, y1, y2, y3, y4, y5, y6⟩ := pc
  have f0 := hrow.frozen (k * 7)
  have f1 := hrow.frozen (k * 7 + 1)
  have f2 := hrow.frozen (k * 7 + 2)
  have f3 := hrow.frozen (k * 7 + 3)
  have f4 := hrow.frozen (k * 7 + 4)
  have f5 := hrow.frozen (k * 7 + 5)
  have f6 := hrow.frozen (k * 7 + 6)
  have hgw : w.heap.size ≤ g := Nat.le_trans B7.out.size hHg
  have x0 := K9.out.cell 0
  have x1 := K9.out.cell 1
  have x2 := K9.out.cell 2
  have x3 := K9.out.cell 3
  have x4 := K9.out.cell 4
  have x5 := K9.out.cell 5
  have x6 := K9.out.cell 6
  simp at x0 x1 x2 x3 x4 x5 x6
  clear hown9 hb9 hrow K6 K9 B7 hHg
  go_wp2
  have BF := below_set7 (k := k) B9.out hgw ((p.1.1, (pgi p, pgs p, m), p.1.2.2), p.2)
  have RF := RW.out.all k hk ((p.1.1, (pgi p, pgs p, m), p.1.2.2), p.2)
  have hok := ok_set (fun q hq => ((HP.out.ok q hq).below BF HBB.out).more (Nat.le_trans HBB.out BF.size)) k ((p.1.1, (pgi p, pgs p, m), p.1.2.2), p.2) (PeerOk.more (PeerOk.below (show PeerOk w B ((p.1.1, (pgi p, pgs p, m), p.1.2.2), p.2) from HOK.out) BF HBB.out) (Nat.le_trans HBB.out BF.size))
  have hmd : (l.set k ((p.1.1, (pgi p, pgs p, m), p.1.2.2), p.2)).map Prod.fst = (l.map Prod.fst).set k (oldD (l[k]'hk).1 (min (pgd (l[k]'hk) + 1) 1073741824)) := by
    rw [List.map_set, HPK.out]
    rw [HMM.out]
    rfl
  refine bodyPost_ret (v := .tuple #[.slice (some ⟨g, 0, none⟩) n c9, .bool false, .int .i64 0]) (by simp [results, Tryz.results56, go_sem]) rfl ⟨_, _, _, rfl, hmd, ⟨RF.1, RF.reads, hok⟩, BF, ⟨RF.2.1, RF.2.2.1⟩, keeps_set hgw (fun hl a ha => .inr ⟨p, by rw [← HPK.out]; exact List.getElem_mem hk, hl, ha⟩)⟩

end Go.Proofs.YtcikljcjhijjdabGreat

namespace Go.Proofs.YtcikljcjhijjdabGreat
open Go.RowKit Go.Lib
set_option linter.unusedSimpArgs false
set_option linter.unusedVariables false


set_option maxHeartbeats 4000000 in
set_option maxRecDepth 100000 in
theorem rhear_new (A : Option Addr) (c B n : Nat) (l : List PeerT) (hm : n ≤ maxLen) (bid : ByteArray) (inc seq now : Int) (w : World) (hp : Peers w B A n l) (hB : B ≤ w.heap.size) (hb : beatE bid inc seq = 0) (hn0 : 0 ≤ now) (hn1 : now ≤ 1073741824) (hgood : ∀ p ∈ l, PeerGood p) (hasc : Asc6 l) (hn6 : n ≤ 6) (k : Nat) (hk : k < l.length) (hid : pid (l[k]'hk) = bid) (hge : plast (l[k]'hk) ≤ now) (hnw : Newer (pgi (l[k]'hk)) (pgs (l[k]'hk)) inc seq) :
    Calls Tryz.prog 56 #[.slice A n c, .agg #[.string bid, .int .i64 inc, .int .i64 seq], .int .i64 now] w (HearIs A l ((l.map Prod.fst).set k (newD (l[k]'hk).1 inc seq (min (now - plast (l[k]'hk)) 16777216) now)) n true w) := by
  have HWT := Lib.hid (show wi now 0 1073741824 = true from wi_true.2 ⟨hn0, hn1⟩)
  have hfi := rfind_some A c B n l k hk (fun j hj hjk => asc_ne hasc hj hk hjk) hm
  rw [hid] at hfi
  have HF := Lib.hid hfi
  have HGK := Lib.hid (hgood _ (List.getElem_mem hk))
  have HOK := Lib.hid (hp.ok _ (List.getElem_mem hk))
  have hkn : k < n := by rw [← hp.len]; exact hk
  clear hfi hgood hasc hid
  have HBE := Lib.hid hb
  clear hb
  have HP := Lib.hid hp
  have HBB := Lib.hid hB
  have HN := Lib.hid hp.len
  have E := Lib.hid ((Env.start w).lay #[.string bid, .int .i64 inc, .int .i64 seq] 103)
  clear hp hB
  go_enter Tryz.func56, Tryz.ntmps56
  go_wp2_with fail
  refine (rbeat_any bid inc seq _).mono ?_
  rw [HBE.out]
  rintro e' w2 ⟨rfl, hb2⟩
  have E2 := Lib.hid (E.out.below hb2)
  clear hb2
  have z0 := E2.out.hd.cell 0
  have z1 := E2.out.hd.cell 1
  have z2 := E2.out.hd.cell 2
  simp at z0 z1 z2
  go_wp2_with fail
  refine (rtime_any now _).mono ?_
  rw [HWT.out]
  rintro e' w' ⟨rfl, rfl⟩
  go_wp2_with fail
  refine (HF.out _ (HP.out.below E2.out.bel HBB.out) (Nat.le_trans HBB.out E2.out.bel.size)).mono ?_
  rintro e' w3 ⟨rfl, hb3⟩
  have E3 := Lib.hid (E2.out.below hb3)
  have hBo : B ≤ w3.heap.size := Nat.le_trans HBB.out E3.out.bel.size
  obtain ⟨b, off, rfl, hb, hcs⟩ := (HP.out.below E3.out.bel HBB.out).addr (by omega)
  obtain ⟨c0, c1, c2, c3, c4, c5, c6⟩ := hcs k hk
  generalize hpk : l[k]'hk = p at *
  have HPK := Lib.hid hpk
  have hbl : b < w3.heap.size := Nat.lt_of_lt_of_le hb hBo
  clear hb3 z0 z1 z2 hcs hpk
  have HTK := Lib.hid (rtake_new (pgi p) (pgs p) (pgd p) inc seq HGK.out.2.1 (beatE_ok HBE.out) hnw)
  obtain ⟨x, hx⟩ : ∃ x, min (now - plast p) 16777216 = x := ⟨_, rfl⟩
  have hg4 := HGK.out
  have hlast0 : 0 ≤ plast p := hg4.2.2.2.1
  have HWN := Lib.hid hg4.2.2.1
  have h64 := good64 hg4
  have HX := Lib.hid hx
  have HWX := Lib.hid (show 0 ≤ x ∧ x ≤ 16777216 by omega)
  clear hnw hg4 hx
  have q0 : w.heap.size < w3.heap.size := E3.out.hd.lt
  have E4 := Lib.hid (E3.out.lay (pcells p).toArray 89)
  simp only [pcells] at E4
  have z0 := E3.out.hd.cell 0
  have z1 := E3.out.hd.cell 1
  have z2 := E3.out.hd.cell 2
  simp at z0 z1 z2
  go_wp2_with fail
  refine (HTK.out _).mono ?_
  rintro e' w5 ⟨rfl, hb5⟩
  have E5 := Lib.hid (E4.out.below hb5)
  have K5 := Lib.hid (((E5.out.hd.set_ 1 (.int .i64 inc)).set_ 2 (.int .i64 seq)).set_ 3 (.int .i64 (pgd p)))
  have B5 := Lib.hid (E5.out.bel)
  clear hb5 z0 z1 z2
  have x0 := E5.out.hd.cell 0
  have x1 := E5.out.hd.cell 1
  have x2 := E5.out.hd.cell 2
  have x3 := E5.out.hd.cell 3
  have x4 := E5.out.hd.cell 4
  have x5 := E5.out.hd.cell 5
  have x6 := E5.out.hd.cell 6
  simp at x0 x1 x2 x3 x4 x5 x6
  have f1 := E5.out.hd.frozen 1
  have f2 := E5.out.hd.frozen 2
  have f3 := E5.out.hd.frozen 3
  have q5 := E5.out.hd.lt
  simp at K5
  have K6 := Lib.hid (K5.out.alloc (.cells #[.int .i64 inc, .int .i64 seq, .int .i64 (pgd p)] 87))
  have hw3 : w.heap.size ≤ w3.heap.size := E3.out.bel.size
  have B6 := Lib.hid (((B5.out.setCell (p := ⟨w3.heap.size, 1, none⟩) hw3 (.int .i64 inc)).setCell (p := ⟨w3.heap.size, 2, none⟩) hw3 (.int .i64 seq)).setCell (p := ⟨w3.heap.size, 3, none⟩) hw3 (.int .i64 (pgd p)))
  have B7 := Lib.hid (B6.out.alloc B6.out.size (.cells #[.int .i64 inc, .int .i64 seq, .int .i64 (pgd p)] 87))
  go_upto_region 15 with fail
  clear x0 x1 x2 x3 x4 x5 x6 f1 f2 f3 c0 c1 c2 c3 c4 c5 c6 B6 B5 K5 E4 E5
  generalize hW6 : World.alloc (World.setCell (World.setCell (World.setCell w5 _ _) _ _) _ _) _ = w6 at *
  clear hW6
  have k6 := K6.out.lt
  have hs6 := B7.out.size
  obtain ⟨i0, hi, hz0, hz1, hz2⟩ := info_parts int_info
  have hwx : min (IntKind.i64.wrap (now - plast p)) 16777216 = x := by rw [show IntKind.i64.wrap (now - plast p) = now - plast p by rw [IntKind.wrap_i64]; omega]; exact HX.out
  have HWW := Lib.hid hwx
  have HOW := Lib.hid (HOK.out.below B7.out HBB.out)
  have hB6 : B ≤ w6.heap.size := Nat.le_trans HBB.out hs6
  have HCL := Lib.hid (show ∀ X, Below w6.heap.size w6 X → Calls Tryz.prog 93 #[psl p] X (NewIntsB (pvals p) w6.heap.size X)
    from fun X h => (clone_any p.2.1 p.2.2 B (pvals p).length (pvals p) rfl (by omega) X (HOW.out.1.below h hB6) (Nat.le_trans hB6 h.size)).mono fun e w'' ⟨A2, c2, h1, h2, h3⟩ => ⟨A2, c2, h1, ownsRow_base h2 h.size, h3⟩)
  have HS := Lib.hid (show ∀ w', Below w6.heap.size w6 w' → (Below w6.heap.size w6 w' ∧ w'.cell? ⟨w3.heap.size, 5, none⟩ = some (psl p) ∧ w'.cell? ⟨w3.heap.size, 6, none⟩ = some (.int .i64 (plast p)))
    from fun w' h => ⟨h, (K6.out.below h k6).cell 5, (K6.out.below h k6).cell 6⟩)
  have HO1 := Lib.hid (oneCell_ints [min (IntKind.i64.wrap (now - plast p)) 16777216])
  have HRE := Lib.hid (fun w' => reads_new w' 3 (min (IntKind.i64.wrap (now - plast p)) 16777216))
  clear hwx
  go_region_held3 (fun w' => Below w6.heap.size w6 w' ∧ w'.cell? ⟨w3.heap.size, 5, none⟩ = some (psl p) ∧ w'.cell? ⟨w3.heap.size, 6, none⟩ = some (.int .i64 (plast p)))
    ((refine HS.out _ ?_; repeat (first | (with_reducible exact hL9) | (with_reducible exact hL4) | (with_reducible exact Below.refl _ _) | (with_reducible refine Below.al5 ?_) | (with_reducible refine Below.drew ?_))))
    (first
      | (go_at_call 93; (with_reducible refine (HCL.out _ ?hb).mono ?_); (case hb => repeat (first | (with_reducible exact Below.refl _ _) | (with_reducible refine Below.al5 ?_) | (with_reducible refine Below.drew ?_))); rintro e' w7 ⟨A4, c4', rfl, hown4, hb4⟩; have hL4 : Below w6.heap.size w6 w7 := Below.thru5 (by repeat (first | (with_reducible exact Below.refl _ _) | (with_reducible refine Below.al5 ?_) | (with_reducible refine Below.drew ?_))) hb4)
      | ((refine step_appN (by rfl) _ _ _ (by rfl) w6.heap.size 3 i0 (.int .i64 0) 1 8 Tryz.underlying35 hi hz0 hz1 hz2 rfl (by decide) _ _ _ (by rfl) (hown4.alloc _) _ _ 1 _ _ (by rfl) (HRE.out _) HO1.out (by unfold maxLen; omega) (by omega) (by exact Below.size (And.left (by assumption))) ?_; intro v9 w9 hown9 hb9; obtain ⟨A9, c9, rfl⟩ := ownsRow_len hown9; have hL9 : Below w6.heap.size w6 w9 := Below.trans (by repeat (first | (with_reducible exact hL4) | (with_reducible refine Below.al5 ?_) | (with_reducible refine Below.drew ?_))) hb9))
      | ((refine step_appN (by rfl) _ _ _ (by rfl) w6.heap.size 3 i0 (.int .i64 0) 1 8 Tryz.underlying35 hi hz0 hz1 hz2 rfl (by decide) _ _ _ (by rfl) hown4 _ _ 1 _ _ (by rfl) ((HRE.out _).drew.below hb4 (by simp)) HO1.out (by unfold maxLen; omega) (by omega) (by exact Below.size (And.left (by assumption))) ?_; intro v9 w9 hown9 hb9; obtain ⟨A9, c9, rfl⟩ := ownsRow_len hown9; have hL9 : Below w6.heap.size w6 w9 := Below.trans (by repeat (first | (with_reducible exact hL4) | (with_reducible refine Below.al5 ?_) | (with_reducible refine Below.drew ?_))) hb9)))
  all_goals
    rename_i hheld
    have K9 := Lib.hid (K6.out.below hL9 k6)
    have B9 := Lib.hid (B7.out.trans (hL9.mono B7.out.size))
    have hs9 := hL9.size
    obtain ⟨g9, c9', hv9, hg9b, hg9l, hc9a, hc9b, -⟩ := ownsRow_at hown9 (by omega)
    injection hv9 with hva hvb hvc
    subst hva hvc
    have OW9 := Lib.hid (show w9.ownsRow w6.heap.size 3 1 (.slice (some ⟨g9, 0, none⟩) ((pvals p).length + 1) c9) ((pvals p).length + 1) (cellsI (pvals p ++ [x])) by have := hown9; rw [HWW.out] at this; simpa [cellsI] using this)
    clear hheld hL9 hown9 HCL HS HO1 HRE K6 B7 HOW hvb
    have x4 := K9.out.cell 4
    have x5 := K9.out.cell 5
    have x6 := K9.out.cell 6
    have f5 := K9.out.frozen 5
    have f6 := K9.out.frozen 6
    simp at x4 x5 x6
    obtain ⟨w0, w1', w2', w3'⟩ := winE_zero HWN.out
    have W3' := Lib.hid w3'
    clear w3'
    have hlen : (pvals p).length ≤ 64 := by omega
    by_cases hlt : ((pvals p).length : Int) < pcap p
    · have hmx : max 0 (((pvals p).length : Int) + 1 - pcap p) = 0 := by omega
      have HL := Lib.hid (show pushV (pcap p) (pvals p) x = pvals p ++ [x] from if_pos hlt)
      go_wp2_with fail
      obtain ⟨L, hL⟩ : ∃ L, pushV (pcap p) (pvals p) x = L := ⟨_, rfl⟩
      have hLl : (pvals p).length + 1 = L.length := by rw [← hL, HL.out]; simp
      have LE := Lib.hid hL
      have LL := Lib.hid hLl
      have K10 := Lib.hid (show Blk ((w9.setCell ⟨w3.heap.size, 5, none⟩ (.slice (some ⟨g9, 0, none⟩) ((pvals p).length + 1) (c9))).setCell ⟨w3.heap.size, 6, none⟩ (.int .i64 now)) w3.heap.size 89 (pcells ((pid p, (inc, seq, pgd p), pcap p, L, now), some ⟨g9, 0, none⟩, c9)).toArray by
        have := (K9.out.set_ 5 (.slice (some ⟨g9, 0, none⟩) ((pvals p).length + 1) (c9))).set_ 6 (.int .i64 now)
        simpa [pcells, hLl] using this)
      have OW10 := Lib.hid (ownsRow_setCell (ownsRow_setCell OW9.out (a := ⟨w3.heap.size, 5, none⟩) k6 (.slice (some ⟨g9, 0, none⟩) ((pvals p).length + 1) (c9))) (a := ⟨w3.heap.size, 6, none⟩) k6 (.int .i64 now))
      have B10 := Lib.hid ((B9.out.setCell (p := ⟨w3.heap.size, 5, none⟩) hw3 (.slice (some ⟨g9, 0, none⟩) ((pvals p).length + 1) (c9))).setCell (p := ⟨w3.heap.size, 6, none⟩) hw3 (.int .i64 now))
      clear hL hLl x4 x5 x6 f5 f6 K9 OW9 B9 hmx
      generalize hW10 : World.setCell (World.setCell w9 _ _) _ _ = w10 at *
      have hs10 : w9.heap.size = w10.heap.size := by rw [← hW10]; simp [World.setCell]
      clear hW10
      have RD := Lib.hid (show Reads w10 w10.heap.size 1 (some ⟨g9, 0, none⟩) L.length (cellsI L) by
        have h0 := Reads.of_own OW10.out
        rw [← LL.out, ← LE.out, HL.out]
        exact h0)
      clear OW10
      refine (clone_peers b off c B n l (by omega) (by omega) _ (HP.out.below B10.out HBB.out) (Nat.le_trans HBB.out B10.out.size)).mono ?_
      rintro e' w11 ⟨A11, c11, rfl, hown11, hb11⟩
      have hl := HN.out
      obtain ⟨g, rfl, hHg, hgl, hrow⟩ := RowP.of_own hown11 (by omega) hl
      have K11 := Lib.hid (K10.out.below hb11 K10.out.lt)
      have B11 := Lib.hid (B10.out.trans (hb11.mono B10.out.size))
      have HB11 := Lib.hid hb11
      have RW := Lib.hid hrow
      have pc := hrow.cells k hk
      obtain ⟨y0, y1, y2, y3, y4, y5, y6⟩ := pc
      have f0 := hrow.frozen (k * 7)
      have f1 := hrow.frozen (k * 7 + 1)
      have f2 := hrow.frozen (k * 7 + 2)
      have f3 := hrow.frozen (k * 7 + 3)
      have f4 := hrow.frozen (k * 7 + 4)
      have f5 := hrow.frozen (k * 7 + 5)
      have f6 := hrow.frozen (k * 7 + 6)
      have hgw : w.heap.size ≤ g := Nat.le_trans B10.out.size hHg
      have HHG := Lib.hid hHg
      have x0 := K11.out.cell 0
      have x1 := K11.out.cell 1
      have x2 := K11.out.cell 2
      have x3 := K11.out.cell 3
      have x4 := K11.out.cell 4
      have x5 := K11.out.cell 5
      have x6 := K11.out.cell 6
      simp [pcells] at x0 x1 x2 x3 x4 x5 x6
      clear hown11 hb11 hrow K10 K11 B10 hHg
      go_wp2
      have BF := below_set7 (k := k) B11.out hgw ((pid p, (inc, seq, pgd p), pcap p, L, now), some ⟨g9, 0, none⟩, c9)
      have BC := below_set7 (k := k) HB11.out HHG.out ((pid p, (inc, seq, pgd p), pcap p, L, now), some ⟨g9, 0, none⟩, c9)
      have RF := RW.out.all k hk ((pid p, (inc, seq, pgd p), pcap p, L, now), some ⟨g9, 0, none⟩, c9)
      have hok := ok_set (fun q hq => ((HP.out.ok q hq).below BF HBB.out).more (Nat.le_trans HBB.out BF.size)) k ((pid p, (inc, seq, pgd p), pcap p, L, now), some ⟨g9, 0, none⟩, c9)
        ⟨(RD.out.below BC (Nat.le_refl _)).more BC.size, by show L.length ≤ c9; rw [← LL.out]; omega, by show c9 ≤ maxLen; omega, HOK.out.2.2.2⟩
      have hmd : (l.set k ((pid p, (inc, seq, pgd p), pcap p, L, now), some ⟨g9, 0, none⟩, c9)).map Prod.fst = (l.map Prod.fst).set k (newD (l[k]'hk).1 inc seq (min (now - plast (l[k]'hk)) 16777216) now) := by
        rw [List.map_set, HPK.out, HX.out, ← LE.out]
        rfl
      refine bodyPost_ret (v := .tuple #[.slice (some ⟨g, 0, none⟩) n c11, .bool true, .int .i64 0]) (by simp [results, Tryz.results56, go_sem]) rfl ⟨_, _, _, rfl, hmd, ⟨RF.1, RF.reads, hok⟩, BF, ⟨RF.2.1, RF.2.2.1⟩, keeps_set hgw (fun _ a ha => .inl (by cases ha; show w.heap.size ≤ g9; omega))⟩
    · have hc1 : ¬ c9 = 1 := by omega
      have hmx : max 0 (((pvals p).length : Int) + 1 - pcap p) = 1 := by omega
      have HL := Lib.hid (show pushV (pcap p) (pvals p) x = (pvals p ++ [x]).drop 1 from (if_neg hlt).trans (by
        cases hq : pvals p with
        | nil => rw [hq] at hlt; simp at hlt; omega
        | cons a t => rfl))
      go_wp2_with fail
      obtain ⟨L, hL⟩ : ∃ L, pushV (pcap p) (pvals p) x = L := ⟨_, rfl⟩
      have hLl : (pvals p).length = L.length := by rw [← hL, HL.out]; simp
      have LE := Lib.hid hL
      have LL := Lib.hid hLl
      have K10 := Lib.hid (show Blk ((w9.setCell ⟨w3.heap.size, 5, none⟩ (.slice (some ⟨g9, 1, none⟩) ((pvals p).length) (c9 - 1))).setCell ⟨w3.heap.size, 6, none⟩ (.int .i64 now)) w3.heap.size 89 (pcells ((pid p, (inc, seq, pgd p), pcap p, L, now), some ⟨g9, 1, none⟩, c9 - 1)).toArray by
        have := (K9.out.set_ 5 (.slice (some ⟨g9, 1, none⟩) ((pvals p).length) (c9 - 1))).set_ 6 (.int .i64 now)
        simpa [pcells, hLl] using this)
      have OW10 := Lib.hid (ownsRow_setCell (ownsRow_setCell OW9.out (a := ⟨w3.heap.size, 5, none⟩) k6 (.slice (some ⟨g9, 1, none⟩) ((pvals p).length) (c9 - 1))) (a := ⟨w3.heap.size, 6, none⟩) k6 (.int .i64 now))
      have B10 := Lib.hid ((B9.out.setCell (p := ⟨w3.heap.size, 5, none⟩) hw3 (.slice (some ⟨g9, 1, none⟩) ((pvals p).length) (c9 - 1))).setCell (p := ⟨w3.heap.size, 6, none⟩) hw3 (.int .i64 now))
      clear hL hLl x4 x5 x6 f5 f6 K9 OW9 B9 hmx
      generalize hW10 : World.setCell (World.setCell w9 _ _) _ _ = w10 at *
      have hs10 : w9.heap.size = w10.heap.size := by rw [← hW10]; simp [World.setCell]
      clear hW10
      have RD := Lib.hid (show Reads w10 w10.heap.size 1 (some ⟨g9, 1, none⟩) L.length (cellsI L) by
        have h0 := Reads.of_own OW10.out
        rw [← LL.out, ← LE.out, HL.out]
        have h1 := h0.cut (k := 1) (cap := c9) (by omega) (by omega)
        rw [if_neg hc1] at h1
        simpa [cellsI, Addr.add] using h1)
      clear OW10
      refine (clone_peers b off c B n l (by omega) (by omega) _ (HP.out.below B10.out HBB.out) (Nat.le_trans HBB.out B10.out.size)).mono ?_
      rintro e' w11 ⟨A11, c11, rfl, hown11, hb11⟩
      have hl := HN.out
      obtain ⟨g, rfl, hHg, hgl, hrow⟩ := RowP.of_own hown11 (by omega) hl
      have K11 := Lib.hid (K10.out.below hb11 K10.out.lt)
      have B11 := Lib.hid (B10.out.trans (hb11.mono B10.out.size))
      have HB11 := Lib.hid hb11
      have RW := Lib.hid hrow
      have pc := hrow.cells k hk
      obtain ⟨y0, y1, y2, y3, y4, y5, y6⟩ := pc
      have f0 := hrow.frozen (k * 7)
      have f1 := hrow.frozen (k * 7 + 1)
      have f2 := hrow.frozen (k * 7 + 2)
      have f3 := hrow.frozen (k * 7 + 3)
      have f4 := hrow.frozen (k * 7 + 4)
      have f5 := hrow.frozen (k * 7 + 5)
      have f6 := hrow.frozen (k * 7 + 6)
      have hgw : w.heap.size ≤ g := Nat.le_trans B10.out.size hHg
      have HHG := Lib.hid hHg
      have x0 := K11.out.cell 0
      have x1 := K11.out.cell 1
      have x2 := K11.out.cell 2
      have x3 := K11.out.cell 3
      have x4 := K11.out.cell 4
      have x5 := K11.out.cell 5
      have x6 := K11.out.cell 6
      simp [pcells] at x0 x1 x2 x3 x4 x5 x6
      clear hown11 hb11 hrow K10 K11 B10 hHg
      go_wp2
      have BF := below_set7 (k := k) B11.out hgw ((pid p, (inc, seq, pgd p), pcap p, L, now), some ⟨g9, 1, none⟩, c9 - 1)
      have BC := below_set7 (k := k) HB11.out HHG.out ((pid p, (inc, seq, pgd p), pcap p, L, now), some ⟨g9, 1, none⟩, c9 - 1)
      have RF := RW.out.all k hk ((pid p, (inc, seq, pgd p), pcap p, L, now), some ⟨g9, 1, none⟩, c9 - 1)
      have hok := ok_set (fun q hq => ((HP.out.ok q hq).below BF HBB.out).more (Nat.le_trans HBB.out BF.size)) k ((pid p, (inc, seq, pgd p), pcap p, L, now), some ⟨g9, 1, none⟩, c9 - 1)
        ⟨(RD.out.below BC (Nat.le_refl _)).more BC.size, by show L.length ≤ c9 - 1; rw [← LL.out]; omega, by show c9 - 1 ≤ maxLen; omega, HOK.out.2.2.2⟩
      have hmd : (l.set k ((pid p, (inc, seq, pgd p), pcap p, L, now), some ⟨g9, 1, none⟩, c9 - 1)).map Prod.fst = (l.map Prod.fst).set k (newD (l[k]'hk).1 inc seq (min (now - plast (l[k]'hk)) 16777216) now) := by
        rw [List.map_set, HPK.out, HX.out, ← LE.out]
        rfl
      refine bodyPost_ret (v := .tuple #[.slice (some ⟨g, 0, none⟩) n c11, .bool true, .int .i64 0]) (by simp [results, Tryz.results56, go_sem]) rfl ⟨_, _, _, rfl, hmd, ⟨RF.1, RF.reads, hok⟩, BF, ⟨RF.2.1, RF.2.2.1⟩, keeps_set hgw (fun _ a ha => .inl (by cases ha; show w.heap.size ≤ g9; omega))⟩

end Go.Proofs.YtcikljcjhijjdabGreat
