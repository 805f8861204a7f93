/- hwref.Hear, walked. -/
import Derived.Test.YtnhfofphfbnmhaaPeHear
import Derived.Test.YtnhfofphfbnmhaaPeClone
namespace Go.Proofs.Ytnhfofphfbnmhaa
open Go.RowKit Go.Lib
set_option linter.unusedSimpArgs false
set_option linter.unusedVariables false

/-- a whole peer stored into a row -/
theorem RowP.all {w : World} {g cap n : Nat} {l : List PeerT} (h : RowP w g cap n l) (k : Nat) (hk : k < l.length) (p' : PeerT) :
    RowP (((((((w.setCell ⟨g, k * 7, none⟩ (.string (pid p'))).setCell ⟨g, k * 7 + 1, none⟩ (.int .i64 (pgi p'))).setCell ⟨g, k * 7 + 2, none⟩ (.int .i64 (pgs p'))).setCell ⟨g, k * 7 + 3, none⟩ (.int .i64 (pgd p'))).setCell ⟨g, k * 7 + 4, none⟩ (.int .i64 (pcap p'))).setCell ⟨g, k * 7 + 5, none⟩ (psl p')).setCell ⟨g, k * 7 + 6, none⟩ (.int .i64 (plast p'))) g cap n (l.set k p') := by
  have h0 := h.set_ k 0 (.string (pid p')) ((p'.1.1, (l[k]'hk).1.2), (l[k]'hk).2) hk (by decide) rfl
  have h1 := h0.gate k (by simpa using hk) (pgi p') (pgs p') (pgd p') ((p'.1.1, p'.1.2.1, (l[k]'hk).1.2.2), (l[k]'hk).2) (by rw [List.getElem_set_self])
  have h2 := h1.win k (by simpa using hk) (pcap p') p'.2.1 p'.2.2 (pvals p') ((p'.1.1, p'.1.2.1, p'.1.2.2.1, p'.1.2.2.2.1, (l[k]'hk).1.2.2.2.2), p'.2) (by rw [List.getElem_set_self])
  have h3 := h2.last_ k (by simpa using hk) (plast p') p' (by rw [List.getElem_set_self])
  rw [List.set_set, List.set_set, List.set_set] at h3
  exact h3
theorem below_set7 {w W : World} {B g k : Nat} (h : Below B w W) (hg : B ≤ g) (p' : PeerT) :
    Below B w (((((((W.setCell ⟨g, k * 7, none⟩ (.string (pid p'))).setCell ⟨g, k * 7 + 1, none⟩ (.int .i64 (pgi p'))).setCell ⟨g, k * 7 + 2, none⟩ (.int .i64 (pgs p'))).setCell ⟨g, k * 7 + 3, none⟩ (.int .i64 (pgd p'))).setCell ⟨g, k * 7 + 4, none⟩ (.int .i64 (pcap p'))).setCell ⟨g, k * 7 + 5, none⟩ (psl p')).setCell ⟨g, k * 7 + 6, none⟩ (.int .i64 (plast p'))) :=
  ((((((h.setCell hg _).setCell hg _).setCell hg _).setCell hg _).setCell hg _).setCell hg _).setCell hg _
theorem ok_set {w : World} {B : Nat} {l : List PeerT} (h : ∀ p ∈ l, PeerOk w B p) (k : Nat) (p' : PeerT) (hp : PeerOk w B p') : ∀ p ∈ l.set k p', PeerOk w B p := fun q hq => by
  rcases List.mem_or_eq_of_mem_set hq with hq | rfl
  · exact h q hq
  · exact hp

set_option maxHeartbeats 4000000 in
set_option maxRecDepth 100000 in
theorem rhear_beat (A : Option Addr) (c B n : Nat) (l : List PeerT) (hm : n ≤ maxLen) (bid : ByteArray) (inc seq now : Int) (w : World) (hp : Peers w B A n l) (hB : B ≤ w.heap.size) (e0 : Int) (hb : beatE bid inc seq = e0) (hz : e0 ≠ 0) :
    Calls Try.prog 6 #[.slice A n c, .agg #[.string bid, .int .i64 inc, .int .i64 seq], .int .i64 now] w (HearNo e0 w) := by
  have HBE := Lib.hid hb
  clear hb
  have HP := Lib.hid hp
  have HBB := Lib.hid hB
  have HN := Lib.hid hp.len
  have E := Lib.hid ((Env.start w).lay #[.string bid, .int .i64 inc, .int .i64 seq] 24)
  clear hp hB
  go_enter Try.func6, Try.ntmps6
  go_wp2_with fail
  refine (rbeat_any bid inc seq _).mono ?_
  rw [HBE.out]
  rintro e' w2 ⟨rfl, hb2⟩
  have E2 := Lib.hid (E.out.below hb2)
  clear hb2
  have z0 := E2.out.hd.cell 0
  have z1 := E2.out.hd.cell 1
  have z2 := E2.out.hd.cell 2
  simp at z0 z1 z2
  go_wp2
  all_goals first
    | (exfalso; omega)
    | (refine bodyPost_ret (v := .tuple #[.slice none 0 0, .bool false, .int .i64 e0]) (by simp [results, Try.results6, go_sem]) rfl ⟨rfl, E2.out.bel⟩)

set_option maxHeartbeats 4000000 in
set_option maxRecDepth 100000 in
theorem rhear_now (A : Option Addr) (c B n : Nat) (l : List PeerT) (hm : n ≤ maxLen) (bid : ByteArray) (inc seq now : Int) (w : World) (hp : Peers w B A n l) (hB : B ≤ w.heap.size) (hb : beatE bid inc seq = 0) (hn : now < 0 ∨ 1073741824 < now) :
    Calls Try.prog 6 #[.slice A n c, .agg #[.string bid, .int .i64 inc, .int .i64 seq], .int .i64 now] w (HearNo 1 w) := by
  have hwf : wi now 0 1073741824 = false := wi_false.2 hn
  have HBE := Lib.hid hb
  clear hb
  have HP := Lib.hid hp
  have HBB := Lib.hid hB
  have HN := Lib.hid hp.len
  have E := Lib.hid ((Env.start w).lay #[.string bid, .int .i64 inc, .int .i64 seq] 24)
  clear hp hB
  go_enter Try.func6, Try.ntmps6
  go_wp2_with fail
  refine (rbeat_any bid inc seq _).mono ?_
  rw [HBE.out]
  rintro e' w2 ⟨rfl, hb2⟩
  have E2 := Lib.hid (E.out.below hb2)
  clear hb2
  have z0 := E2.out.hd.cell 0
  have z1 := E2.out.hd.cell 1
  have z2 := E2.out.hd.cell 2
  simp at z0 z1 z2
  go_wp2_with fail
  refine (rtime_any now _).mono ?_
  rw [hwf]
  rintro e' w' ⟨rfl, rfl⟩
  clear hwf
  go_wp2
  all_goals first
    | (exfalso; omega)
    | (refine bodyPost_ret (v := .tuple #[.slice none 0 0, .bool false, .int .i64 1]) (by simp [results, Try.results6, go_sem]) rfl ⟨rfl, E2.out.bel⟩)

set_option maxHeartbeats 4000000 in
set_option maxRecDepth 100000 in
theorem rhear_none (A : Option Addr) (c B n : Nat) (l : List PeerT) (hm : n ≤ maxLen) (bid : ByteArray) (inc seq now : Int) (w : World) (hp : Peers w B A n l) (hB : B ≤ w.heap.size) (hb : beatE bid inc seq = 0) (hn0 : 0 ≤ now) (hn1 : now ≤ 1073741824) (hno : ∀ j, (hj : j < l.length) → pid (l[j]'hj) ≠ bid) :
    Calls Try.prog 6 #[.slice A n c, .agg #[.string bid, .int .i64 inc, .int .i64 seq], .int .i64 now] w (HearNo 4 w) := by
  have HWT := Lib.hid (show wi now 0 1073741824 = true from wi_true.2 ⟨hn0, hn1⟩)
  have HF := Lib.hid (rfind_none A c B n l bid hno hm)
  clear hno
  have HBE := Lib.hid hb
  clear hb
  have HP := Lib.hid hp
  have HBB := Lib.hid hB
  have HN := Lib.hid hp.len
  have E := Lib.hid ((Env.start w).lay #[.string bid, .int .i64 inc, .int .i64 seq] 24)
  clear hp hB
  go_enter Try.func6, Try.ntmps6
  go_wp2_with fail
  refine (rbeat_any bid inc seq _).mono ?_
  rw [HBE.out]
  rintro e' w2 ⟨rfl, hb2⟩
  have E2 := Lib.hid (E.out.below hb2)
  clear hb2
  have z0 := E2.out.hd.cell 0
  have z1 := E2.out.hd.cell 1
  have z2 := E2.out.hd.cell 2
  simp at z0 z1 z2
  go_wp2_with fail
  refine (rtime_any now _).mono ?_
  rw [HWT.out]
  rintro e' w' ⟨rfl, rfl⟩
  go_wp2_with fail
  refine (HF.out _ (HP.out.below E2.out.bel HBB.out) (Nat.le_trans HBB.out E2.out.bel.size)).mono ?_
  rintro e' w3 ⟨rfl, hb3⟩
  have E3 := Lib.hid (E2.out.below hb3)
  clear hb3 z0 z1 z2
  go_wp2
  all_goals first
    | (exfalso; omega)
    | (refine bodyPost_ret (v := .tuple #[.slice none 0 0, .bool false, .int .i64 4]) (by simp [results, Try.results6, go_sem]) rfl ⟨rfl, E3.out.bel⟩)

set_option maxHeartbeats 4000000 in
set_option maxRecDepth 100000 in
theorem rhear_late (A : Option Addr) (c B n : Nat) (l : List PeerT) (hm : n ≤ maxLen) (bid : ByteArray) (inc seq now : Int) (w : World) (hp : Peers w B A n l) (hB : B ≤ w.heap.size) (hb : beatE bid inc seq = 0) (hn0 : 0 ≤ now) (hn1 : now ≤ 1073741824) (hgood : ∀ p ∈ l, PeerGood p) (hasc : Asc6 l) (hn6 : n ≤ 6) (k : Nat) (hk : k < l.length) (hid : pid (l[k]'hk) = bid) (hlt : now < plast (l[k]'hk)) :
    Calls Try.prog 6 #[.slice A n c, .agg #[.string bid, .int .i64 inc, .int .i64 seq], .int .i64 now] w (HearNo 1 w) := by
  have HWT := Lib.hid (show wi now 0 1073741824 = true from wi_true.2 ⟨hn0, hn1⟩)
  have hfi := rfind_some A c B n l k hk (fun j hj hjk => asc_ne hasc hj hk hjk) hm
  rw [hid] at hfi
  have HF := Lib.hid hfi
  have HGK := Lib.hid (hgood _ (List.getElem_mem hk))
  have HOK := Lib.hid (hp.ok _ (List.getElem_mem hk))
  have hkn : k < n := by rw [← hp.len]; exact hk
  clear hfi hgood hasc hid
  have HBE := Lib.hid hb
  clear hb
  have HP := Lib.hid hp
  have HBB := Lib.hid hB
  have HN := Lib.hid hp.len
  have E := Lib.hid ((Env.start w).lay #[.string bid, .int .i64 inc, .int .i64 seq] 24)
  clear hp hB
  go_enter Try.func6, Try.ntmps6
  go_wp2_with fail
  refine (rbeat_any bid inc seq _).mono ?_
  rw [HBE.out]
  rintro e' w2 ⟨rfl, hb2⟩
  have E2 := Lib.hid (E.out.below hb2)
  clear hb2
  have z0 := E2.out.hd.cell 0
  have z1 := E2.out.hd.cell 1
  have z2 := E2.out.hd.cell 2
  simp at z0 z1 z2
  go_wp2_with fail
  refine (rtime_any now _).mono ?_
  rw [HWT.out]
  rintro e' w' ⟨rfl, rfl⟩
  go_wp2_with fail
  refine (HF.out _ (HP.out.below E2.out.bel HBB.out) (Nat.le_trans HBB.out E2.out.bel.size)).mono ?_
  rintro e' w3 ⟨rfl, hb3⟩
  have E3 := Lib.hid (E2.out.below hb3)
  have hBo : B ≤ w3.heap.size := Nat.le_trans HBB.out E3.out.bel.size
  obtain ⟨b, off, rfl, hb, hcs⟩ := (HP.out.below E3.out.bel HBB.out).addr (by omega)
  obtain ⟨c0, c1, c2, c3, c4, c5, c6⟩ := hcs k hk
  generalize hpk : l[k]'hk = p at *
  have HPK := Lib.hid hpk
  have hbl : b < w3.heap.size := Nat.lt_of_lt_of_le hb hBo
  clear hb3 z0 z1 z2 hcs hpk
  go_wp2
  all_goals first
    | (exfalso; omega)
    | (refine bodyPost_ret (v := .tuple #[.slice none 0 0, .bool false, .int .i64 1]) (by simp [results, Try.results6, go_sem]) rfl ⟨rfl, E3.out.bel.alloc E3.out.bel.size _⟩)

set_option maxHeartbeats 4000000 in
set_option maxRecDepth 100000 in
theorem rhear_old (A : Option Addr) (c B n : Nat) (l : List PeerT) (hm : n ≤ maxLen) (bid : ByteArray) (inc seq now : Int) (w : World) (hp : Peers w B A n l) (hB : B ≤ w.heap.size) (hb : beatE bid inc seq = 0) (hn0 : 0 ≤ now) (hn1 : now ≤ 1073741824) (hgood : ∀ p ∈ l, PeerGood p) (hasc : Asc6 l) (hn6 : n ≤ 6) (k : Nat) (hk : k < l.length) (hid : pid (l[k]'hk) = bid) (hge : plast (l[k]'hk) ≤ now) (hnw : ¬ Newer (pgi (l[k]'hk)) (pgs (l[k]'hk)) inc seq) :
    Calls Try.prog 6 #[.slice A n c, .agg #[.string bid, .int .i64 inc, .int .i64 seq], .int .i64 now] w (HearIs ((l.map Prod.fst).set k (oldD (l[k]'hk).1 (min (pgd (l[k]'hk) + 1) 1073741824))) n false w) := by
  have HWT := Lib.hid (show wi now 0 1073741824 = true from wi_true.2 ⟨hn0, hn1⟩)
  have hfi := rfind_some A c B n l k hk (fun j hj hjk => asc_ne hasc hj hk hjk) hm
  rw [hid] at hfi
  have HF := Lib.hid hfi
  have HGK := Lib.hid (hgood _ (List.getElem_mem hk))
  have HOK := Lib.hid (hp.ok _ (List.getElem_mem hk))
  have hkn : k < n := by rw [← hp.len]; exact hk
  clear hfi hgood hasc hid
  have HBE := Lib.hid hb
  clear hb
  have HP := Lib.hid hp
  have HBB := Lib.hid hB
  have HN := Lib.hid hp.len
  have E := Lib.hid ((Env.start w).lay #[.string bid, .int .i64 inc, .int .i64 seq] 24)
  clear hp hB
  go_enter Try.func6, Try.ntmps6
  go_wp2_with fail
  refine (rbeat_any bid inc seq _).mono ?_
  rw [HBE.out]
  rintro e' w2 ⟨rfl, hb2⟩
  have E2 := Lib.hid (E.out.below hb2)
  clear hb2
  have z0 := E2.out.hd.cell 0
  have z1 := E2.out.hd.cell 1
  have z2 := E2.out.hd.cell 2
  simp at z0 z1 z2
  go_wp2_with fail
  refine (rtime_any now _).mono ?_
  rw [HWT.out]
  rintro e' w' ⟨rfl, rfl⟩
  go_wp2_with fail
  refine (HF.out _ (HP.out.below E2.out.bel HBB.out) (Nat.le_trans HBB.out E2.out.bel.size)).mono ?_
  rintro e' w3 ⟨rfl, hb3⟩
  have E3 := Lib.hid (E2.out.below hb3)
  have hBo : B ≤ w3.heap.size := Nat.le_trans HBB.out E3.out.bel.size
  obtain ⟨b, off, rfl, hb, hcs⟩ := (HP.out.below E3.out.bel HBB.out).addr (by omega)
  obtain ⟨c0, c1, c2, c3, c4, c5, c6⟩ := hcs k hk
  generalize hpk : l[k]'hk = p at *
  have HPK := Lib.hid hpk
  have hbl : b < w3.heap.size := Nat.lt_of_lt_of_le hb hBo
  clear hb3 z0 z1 z2 hcs hpk
  obtain ⟨m, hmm⟩ : ∃ m, min (pgd p + 1) 1073741824 = m := ⟨_, rfl⟩
  have HTK := Lib.hid (rtake_old (pgi p) (pgs p) (pgd p) inc seq HGK.out.2.1 (beatE_ok HBE.out) hnw m hmm)
  have HMM := Lib.hid hmm
  clear hnw hmm
  have q0 : w.heap.size < w3.heap.size := E3.out.hd.lt
  have E4 := Lib.hid (E3.out.lay (pcells p).toArray 42)
  simp only [pcells] at E4
  have z0 := E3.out.hd.cell 0
  have z1 := E3.out.hd.cell 1
  have z2 := E3.out.hd.cell 2
  simp at z0 z1 z2
  go_wp2_with fail
  refine (HTK.out _).mono ?_
  rintro e' w5 ⟨rfl, hb5⟩
  have E5 := Lib.hid (E4.out.below hb5)
  have K5 := Lib.hid (((E5.out.hd.set_ 1 (.int .i64 (pgi p))).set_ 2 (.int .i64 (pgs p))).set_ 3 (.int .i64 m))
  have B5 := Lib.hid (E5.out.bel)
  clear hb5 z0 z1 z2
  have x0 := E5.out.hd.cell 0
  have x1 := E5.out.hd.cell 1
  have x2 := E5.out.hd.cell 2
  have x3 := E5.out.hd.cell 3
  have x4 := E5.out.hd.cell 4
  have x5 := E5.out.hd.cell 5
  have x6 := E5.out.hd.cell 6
  simp at x0 x1 x2 x3 x4 x5 x6
  have f1 := E5.out.hd.frozen 1
  have f2 := E5.out.hd.frozen 2
  have f3 := E5.out.hd.frozen 3
  have q5 := E5.out.hd.lt
  simp at K5
  have K6 := Lib.hid (K5.out.alloc (.cells #[.int .i64 (pgi p), .int .i64 (pgs p), .int .i64 m] 37))
  have hw3 : w.heap.size ≤ w3.heap.size := E3.out.bel.size
  have B6 := Lib.hid (((B5.out.setCell (p := ⟨w3.heap.size, 1, none⟩) hw3 (.int .i64 (pgi p))).setCell (p := ⟨w3.heap.size, 2, none⟩) hw3 (.int .i64 (pgs p))).setCell (p := ⟨w3.heap.size, 3, none⟩) hw3 (.int .i64 m))
  have B7 := Lib.hid (B6.out.alloc B6.out.size (.cells #[.int .i64 (pgi p), .int .i64 (pgs p), .int .i64 m] 37))
  go_wp2_with fail
  clear x0 x1 x2 x3 x4 x5 x6 f1 f2 f3 c0 c1 c2 c3 c4 c5 c6 B6 B5 K5 E4 E5
  refine (clone_peers b off c B n l (by omega) (by omega) _ (HP.out.below B7.out HBB.out) (Nat.le_trans HBB.out B7.out.size)).mono ?_
  rintro e' w9 ⟨A9, c9, rfl, hown9, hb9⟩
  have hl := HN.out
  obtain ⟨g, rfl, hHg, hgl, hrow⟩ := RowP.of_own hown9 (by omega) hl
  have K9 := Lib.hid (K6.out.below hb9 K6.out.lt)
  have B9 := Lib.hid (B7.out.trans (hb9.mono B7.out.size))
  have RW := Lib.hid hrow
  have pc := hrow.cells k hk
  obtain ⟨y0, y1, y2, y3, y4, y5, y6⟩ := pc
  have f0 := hrow.frozen (k * 7)
  have f1 := hrow.frozen (k * 7 + 1)
  have f2 := hrow.frozen (k * 7 + 2)
  have f3 := hrow.frozen (k * 7 + 3)
  have f4 := hrow.frozen (k * 7 + 4)
  have f5 := hrow.frozen (k * 7 + 5)
  have f6 := hrow.frozen (k * 7 + 6)
  have hgw : w.heap.size ≤ g := Nat.le_trans B7.out.size hHg
  have x0 := K9.out.cell 0
  have x1 := K9.out.cell 1
  have x2 := K9.out.cell 2
  have x3 := K9.out.cell 3
  have x4 := K9.out.cell 4
  have x5 := K9.out.cell 5
  have x6 := K9.out.cell 6
  simp at x0 x1 x2 x3 x4 x5 x6
  clear hown9 hb9 hrow K6 K9 B7 hHg
  go_wp2
  have BF := below_set7 (k := k) B9.out hgw ((p.1.1, (pgi p, pgs p, m), p.1.2.2), p.2)
  have RF := RW.out.all k hk ((p.1.1, (pgi p, pgs p, m), p.1.2.2), p.2)
  have hok := ok_set (fun q hq => ((HP.out.ok q hq).below BF HBB.out).more (Nat.le_trans HBB.out BF.size)) k ((p.1.1, (pgi p, pgs p, m), p.1.2.2), p.2) (PeerOk.more (PeerOk.below (show PeerOk w B ((p.1.1, (pgi p, pgs p, m), p.1.2.2), p.2) from HOK.out) BF HBB.out) (Nat.le_trans HBB.out BF.size))
  have hmd : (l.set k ((p.1.1, (pgi p, pgs p, m), p.1.2.2), p.2)).map Prod.fst = (l.map Prod.fst).set k (oldD (l[k]'hk).1 (min (pgd (l[k]'hk) + 1) 1073741824)) := by
    rw [List.map_set, HPK.out]
    rw [HMM.out]
    rfl
  refine bodyPost_ret (v := .tuple #[.slice (some ⟨g, 0, none⟩) n c9, .bool false, .int .i64 0]) (by simp [results, Try.results6, go_sem]) rfl ⟨_, _, _, rfl, hmd, ⟨RF.1, RF.reads, hok⟩, BF⟩

end Go.Proofs.Ytnhfofphfbnmhaa
