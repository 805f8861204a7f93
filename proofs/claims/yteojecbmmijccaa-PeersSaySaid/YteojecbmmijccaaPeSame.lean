/- hwref.SamePeers of the same peers, walked. -/
import Derived.Test.YteojecbmmijccaaPeCopy
import Derived.Test.YteojecbmmijccaaWinSame
namespace Go.Proofs.Yteojecbmmijccaa
open Go.RowKit Go.Lib
set_option linter.unusedSimpArgs false
set_option linter.unusedVariables false

set_option maxHeartbeats 1000000 in
set_option maxRecDepth 100000 in
theorem same_peer (p q : PeerT) (hpq : p.1 = q.1) (h64 : (pvals p).length ≤ 100000) (B : Nat) (w : World) (hp : PeerOk w B p) (hq : PeerOk w B q) (hB : B ≤ w.heap.size) :
    Calls Try.prog 28 #[pagg p, pagg q] w fun e w' => e = .returned (.bool true) ∧ Below w.heap.size w w' := by
  obtain ⟨⟨id, ⟨gi, gs, gd⟩, cap, l, last⟩, A, c⟩ := p
  obtain ⟨d', A', c'⟩ := q
  subst hpq
  have E := Lib.hid (((Env.start w).lay #[.string id, .int .i64 gi, .int .i64 gs, .int .i64 gd, .int .i64 cap, .slice A l.length c, .int .i64 last] 34).lay #[.string id, .int .i64 gi, .int .i64 gs, .int .i64 gd, .int .i64 cap, .slice A' l.length c', .int .i64 last] 34)
  have R1 := Lib.hid hp.1
  have R2 := Lib.hid hq.1
  simp only [pvals] at R1 R2 h64
  clear hp hq
  unfold pagg pcells
  simp only [pid, pgi, pgs, pgd, pcap, psl, plast, pvals]
  generalize hn : l.length = n at *
  have HN := Lib.hid hn
  clear hn
  go_enter Try.func28, Try.ntmps28
  go_wp2_with fail
  refine (swin_yes cap A A' c c' B n n l HN.out HN.out (by omega) _ (R1.out.below E.out.bel hB) (R2.out.below E.out.bel hB) (Nat.le_trans hB E.out.bel.size)).mono ?_
  rintro e' w1 ⟨rfl, hb1⟩
  have E1 := Lib.hid (E.out.below hb1)
  have x6 := E1.out.hd.cell 6
  have y6 := E1.out.tl.hd.cell 6
  simp at x6 y6
  clear hb1
  go_wp2
  go_ret
  exact ⟨rfl, E1.out.bel⟩

set_option maxHeartbeats 2000000 in
set_option maxRecDepth 100000 in
theorem equal_peers (A A' : Option Addr) (c c' B n : Nat) (l l' : List PeerT) (hm : n ≤ 1000) (hmap : l.map Prod.fst = l'.map Prod.fst) (h64 : ∀ p ∈ l, (pvals p).length ≤ 100000) (w : World) (hp : Peers w B A n l) (hp' : Peers w B A' n l') (hB : B ≤ w.heap.size) :
    Calls Try.prog 27 #[.slice A n c, .slice A' n c', .func (.func 28) #[] #[]] w fun e w' => e = .returned (.bool true) ∧ Below w.heap.size w w' := by
  have HP := Lib.hid hp
  have HP' := Lib.hid hp'
  have HBB := Lib.hid hB
  have HN := Lib.hid hp.len
  have HN' := Lib.hid hp'.len
  have H64 := Lib.hid h64
  have HM := Lib.hid hmap
  have HSP := Lib.hid (fun p q hpq h64 B w hp hq hB => same_peer p q hpq h64 B w hp hq hB)
  simp only [pagg, pcells] at HSP
  clear hp hp' hB h64 hmap
  go_enter Try.func27, Try.ntmps27
  go_wp2_with fail
  go_loopw [17] (fun iv wr => ∃ k : Nat, k ≤ n ∧ iv = .int .i64 (k : Int) ∧ Below w.heap.size w wr) (fun iv _ => n - (RowKit.intOf iv).toNat)
  case atStart => exact ⟨0, by omega, rfl, Below.refl _ _⟩
  case round =>
    obtain ⟨k, hk, rfl, hbl⟩ := hrel
    obtain ⟨wo, rfl⟩ : ∃ wo, wo = wr := ⟨_, rfl⟩
    have BL := Lib.hid hbl
    clear hbl
    by_cases hlt : k < n
    · have hkl : k < l.length := by rw [HN.out]; exact hlt
      have hkl' : k < l'.length := by rw [HN'.out]; exact hlt
      have hBo : B ≤ wo.heap.size := Nat.le_trans HBB.out BL.out.size
      have HPW := Lib.hid (HP.out.below BL.out HBB.out)
      have HPW' := Lib.hid (HP'.out.below BL.out HBB.out)
      obtain ⟨b, off, rfl, hb, hcs⟩ := HPW.out.addr (by omega)
      obtain ⟨b', off', rfl, hb', hcs'⟩ := HPW'.out.addr (by omega)
      obtain ⟨c0, c1, c2, c3, c4, c5, c6⟩ := hcs k hkl
      obtain ⟨d0, d1, d2, d3, d4, d5, d6⟩ := hcs' k hkl'
      have hok := HPW.out.ok _ (List.getElem_mem hkl)
      have hok' := HPW'.out.ok _ (List.getElem_mem hkl')
      have h64k := H64.out _ (List.getElem_mem hkl)
      have hpq : (l[k]'hkl).1 = (l'[k]'hkl').1 := by
        have e1 : (l.map Prod.fst)[k]? = some (l[k]'hkl).1 := by rw [List.getElem?_map, List.getElem?_eq_getElem hkl]; rfl
        have e2 : (l'.map Prod.fst)[k]? = some (l'[k]'hkl').1 := by rw [List.getElem?_map, List.getElem?_eq_getElem hkl']; rfl
        rw [HM.out, e2] at e1
        injection e1 with e1
        exact e1.symm
      generalize l[k]'hkl = p at *
      generalize l'[k]'hkl' = q at *
      have HPQ := Lib.hid hpq
      have OK := Lib.hid hok
      have OK' := Lib.hid hok'
      have E := Lib.hid (((Env.start wo).lay (pcells p).toArray 34).lay (pcells q).toArray 34)
      simp only [pcells] at E
      have hb2 : b' < wo.heap.size := Nat.lt_of_lt_of_le hb' hBo
      have hb1 : b < wo.heap.size := Nat.lt_of_lt_of_le hb hBo
      clear hcs hcs' hok hok' hpq
      go_wp2_with fail
      refine (HSP.out p q HPQ.out h64k B _ (OK.out.below E.out.bel hBo) (OK'.out.below E.out.bel hBo) (Nat.le_trans hBo E.out.bel.size)).mono ?_
      rintro e' w1 ⟨rfl, hb1⟩
      have BL1 := Lib.hid (BL.out.trans ((E.out.below hb1).bel.mono BL.out.size))
      clear hb1
      go_wp2
      exact ⟨⟨k + 1, by omega, by simp, BL1.out⟩, by simp [RowKit.intOf]; omega⟩
    · go_wp2
      go_ret
      exact ⟨rfl, BL.out⟩
theorem same_peers (A A' : Option Addr) (c c' B n : Nat) (l l' : List PeerT) (hm : n ≤ 1000) (hmap : l.map Prod.fst = l'.map Prod.fst) (h64 : ∀ p ∈ l, (pvals p).length ≤ 100000) (w : World) (hp : Peers w B A n l) (hp' : Peers w B A' n l') (hB : B ≤ w.heap.size) :
    Calls Try.prog 10 #[.slice A n c, .slice A' n c'] w fun e w' => e = .returned (.bool true) ∧ Below w.heap.size w w' := by
  have HE := Lib.hid (equal_peers A A' c c' B n l l' hm hmap h64 w hp hp' hB)
  clear hp hp' hmap h64
  go_enter Try.func10, Try.ntmps10
  go_wp2_with fail
  refine HE.out.mono ?_
  rintro e' w1 ⟨rfl, hb1⟩
  have BL1 := Lib.hid hb1
  clear hb1
  go_wp2
  go_ret
  exact ⟨rfl, BL1.out⟩
end Go.Proofs.Yteojecbmmijccaa
