/- peers.Check, walked. (with what it needs) -/
import Derived.Test.YthimchhnhhchkaaGreatDoorM15
import Derived.Test.YthimchhnhhchkaaGreatDoorM17
import Derived.BigRegion
import Derived.Test.YthimchhnhhchkaaGreatDoorM04
namespace Go.Proofs.YthimchhnhhchkaaGreatDoor
open Go.RowKit Go.Lib
set_option linter.unusedSimpArgs false
set_option linter.unusedVariables false

theorem less_of (a b : ByteArray) (v : Bool) (h : lessB a b = v) : Op.bytesLess a.toList b.toList = v := h

set_option maxHeartbeats 4000000 in
set_option maxRecDepth 100000 in
theorem pchk_is (A : Option Addr) (c B n : Nat) (l : List PeerT) (hm : n ≤ maxLen) (e0 : Int) (he : peersE l = e0) (w : World) (hp : Peers w B A n l) (hB : B ≤ w.heap.size) :
    Calls Tryz.prog 161 #[.slice A n c] w fun e w' => e = .returned (.int .i64 e0) ∧ Below w.heap.size w w' := by
  have HP := Lib.hid hp
  have HBB := Lib.hid hB
  have HN := Lib.hid hp.len
  clear hp hB
  by_cases h6 : 6 < n
  · have h6' : 6 < (n : Int) := by omega
    have he2 : e0 = 2 := by rw [← he]; unfold peersE; rw [if_pos (by rw [HN.out]; exact h6)]
    subst he2
    clear he
    go_enter Tryz.func161, Tryz.ntmps161
    go_wp2
    go_ret
    exact ⟨rfl, Below.refl _ _⟩
  have HE := Lib.hid (show chkE ⟨#[]⟩ l = e0 by rw [← he]; unfold peersE; rw [if_neg (by rw [HN.out]; exact h6)])
  clear he
  go_enter Tryz.func161, Tryz.ntmps161
  go_wp2_with fail
  go_loopw [12] (fun iv wr => ∃ k : Nat, k ≤ n ∧ iv = .int .i64 (k : Int) ∧ chkE (prevId l k) (l.drop k) = e0 ∧ Below w.heap.size w wr) (fun iv _ => n - (RowKit.intOf iv).toNat)
  case atStart => exact ⟨0, by omega, rfl, by simpa [prevId] using HE.out, Below.refl _ _⟩
  case round =>
    obtain ⟨k, hk, rfl, hek, hbl⟩ := hrel
    obtain ⟨wo, rfl⟩ : ∃ wo, wo = wr := ⟨_, rfl⟩
    by_cases hlt : k < n
    · have hkl : k < l.length := by rw [HN.out]; exact hlt
      obtain ⟨b, off, rfl, hb, hcs⟩ := (HP.out.below hbl HBB.out).addr (by omega)
      have hpc := hcs k hkl
      have hok := ((HP.out.below hbl HBB.out)).ok _ (List.getElem_mem hkl)
      have hck := chk_drop l (prevId l k) k hkl
      rw [hek] at hck
      have hnx := prevId_succ l k hkl
      have HPC := Lib.hid hcs
      generalize hpe : l[k]'hkl = p at *
      have HPE := Lib.hid hpe
      obtain ⟨c0, c1, c2, c3, c4, c5, c6⟩ := hpc
      have HCK := Lib.hid hck
      have HNX := Lib.hid hnx
      have BL := Lib.hid hbl
      have OK := Lib.hid hok
      have hszp : (pid p).size ≤ maxLen := hok.2.2.2
      have hvl : (pvals p).length ≤ maxLen := Nat.le_trans hok.2.1 hok.2.2.1
      have hBo : B ≤ wo.heap.size := Nat.le_trans HBB.out hbl.size
      have E := Lib.hid ((Env.start wo).lay (pcells p).toArray 183)
      simp only [pcells] at E
      clear hck hnx hbl hok hcs hek hpe
      go_wp2_with fail
      refine (bid_any (pid p) hszp _).mono ?_
      rintro e' w' ⟨rfl, rfl⟩
      cases hid : idB (pid p)
      · have EV := Lib.hid (show e0 = 3 by have := HCK.out; unfold peerE at this; rw [hid] at this; simpa using this)
        clear hid
        go_wp2
        go_ret
        exact ⟨ret_int EV.out.symm, BL.out.alloc BL.out.size _⟩
      · go_wp2_with fail
        refine (gate_check (pgi p) (pgs p) (pgd p) _).mono ?_
        rintro e' w2 ⟨rfl, hb2⟩
        have E2 := Lib.hid (E.out.below hb2)
        have BE2 := Lib.hid (BL.out.trans (E2.out.bel.mono BL.out.size))
        clear hb2
        have x0 := E2.out.hd.cell 0
        have x1 := E2.out.hd.cell 1
        have x2 := E2.out.hd.cell 2
        have x3 := E2.out.hd.cell 3
        have x4 := E2.out.hd.cell 4
        have x5 := E2.out.hd.cell 5
        have x6 := E2.out.hd.cell 6
        simp at x0 x1 x2 x3 x4 x5 x6
        by_cases hg : GateOk (pgi p) (pgs p) (pgd p)
        · have hge : gateE (pgi p) (pgs p) (pgd p) = 0 := if_pos hg
          rw [hge]
          clear hge
          go_wp2_with fail
          refine (wchk_is (pcap p) p.2.1 p.2.2 B (pvals p).length (pvals p) rfl _ rfl hvl _ (OK.out.1.below E2.out.bel hBo) (Nat.le_trans hBo E2.out.bel.size)).mono ?_
          rintro e' w3 ⟨rfl, hb3⟩
          have E3 := Lib.hid (E2.out.below hb3)
          have BE3 := Lib.hid (BL.out.trans (E3.out.bel.mono BL.out.size))
          clear hb3 x0 x1 x2 x3 x4 x5 x6
          have x0 := E3.out.hd.cell 0
          have x1 := E3.out.hd.cell 1
          have x2 := E3.out.hd.cell 2
          have x3 := E3.out.hd.cell 3
          have x4 := E3.out.hd.cell 4
          have x5 := E3.out.hd.cell 5
          have x6 := E3.out.hd.cell 6
          simp at x0 x1 x2 x3 x4 x5 x6
          by_cases hw : winE (pcap p) (pvals p) = 0
          · rw [hw]
            cases hlw : wi (plast p) 0 1073741824
            · have EV := Lib.hid (show e0 = 1 by have := HCK.out; unfold peerE at this; rw [hid] at this; simpa [hg, hw, hlw] using this)
              have hl2 := wi_false.1 hlw
              generalize plast p = lp at *
              go_wp2
              all_goals first
                | (exfalso; omega)
                | (go_ret; exact ⟨ret_int EV.out.symm, BE3.out⟩)
            · have HC2 := Lib.hid (show e0 = if lessB (prevId l k) (pid p) = true then chkE (pid p) (l.drop (k + 1)) else 3 by have := HCK.out; unfold peerE at this; rw [hid] at this; simpa [hg, hw, hlw] using this)
              obtain ⟨hl1, hl2⟩ := wi_true.1 hlw
              have hidn := (idB_ne hid).1
              clear hid hw hg hlw
              rcases Nat.eq_zero_or_pos k with hk0 | hk0
              · subst hk0
                have hle : lessB (prevId l 0) (pid p) = true := less_empty hidn
                have HC3 := Lib.hid (show chkE (prevId l (0 + 1)) (l.drop (0 + 1)) = e0 by have := HC2.out; rw [hle, if_pos rfl] at this; rw [HNX.out]; exact this.symm)
                clear hle
                go_wp2_with fail
                go_region
                all_goals
                  go_wp2
                  exact ⟨⟨0 + 1, by omega, by simp, HC3.out, by first | exact BE3.out | exact BE3.out.drew⟩, by simp [RowKit.intOf]; omega⟩
              · obtain ⟨k', rfl⟩ : ∃ k', k = k' + 1 := ⟨k - 1, by omega⟩
                have hkl' : k' < l.length := by omega
                have hpv := prevId_succ l k' hkl'
                have hqc := HPC.out k' hkl'
                generalize l[k']'hkl' = q at *
                have y0 := (E3.out.bel.cell (p := ⟨b, off + k' * 7, none⟩) (Nat.lt_of_lt_of_le hb hBo)).trans hqc.1
                have hkk : ((k' + 1 : Nat) : Int) - 1 = (k' : Int) := by omega
                have hkp : 0 < ((k' + 1 : Nat) : Int) := by omega
                have HC4 := Lib.hid (show e0 = if lessB (pid q) (pid p) = true then chkE (pid p) (l.drop (k' + 1 + 1)) else 3 by have := HC2.out; rw [hpv] at this; exact this)
                clear hqc hpv
                cases hle : lessB (pid q) (pid p)
                · have EV := Lib.hid (show e0 = 3 by have := HC4.out; rw [hle] at this; simpa using this)
                  have hlq := less_of _ _ _ hle
                  clear hle
                  go_wp2_with fail
                  go_region
                  all_goals
                    go_wp2
                    go_ret
                    exact ⟨ret_int EV.out.symm, by first | exact BE3.out | exact BE3.out.drew⟩
                · have EV := Lib.hid (show chkE (prevId l (k' + 1 + 1)) (l.drop (k' + 1 + 1)) = e0 by have := HC4.out; rw [hle, if_pos rfl] at this; rw [HNX.out]; exact this.symm)
                  have hlq := less_of _ _ _ hle
                  clear hle
                  go_wp2_with fail
                  go_region
                  all_goals
                    go_wp2
                    exact ⟨⟨k' + 1 + 1, by omega, by simp, EV.out, by first | exact BE3.out | exact BE3.out.drew⟩, by simp [RowKit.intOf]; omega⟩
          · have EV := Lib.hid (show e0 = winE (pcap p) (pvals p) by have := HCK.out; unfold peerE at this; rw [hid] at this; simpa [hg, hw] using this)
            generalize winE (pcap p) (pvals p) = ew at *
            go_wp2
            all_goals first
              | (exfalso; omega)
              | (go_ret; exact ⟨ret_int EV.out.symm, BE3.out⟩)
        · have EV := Lib.hid (show e0 = 1 by have := HCK.out; unfold peerE at this; rw [hid] at this; simpa [hg] using this)
          have hge : gateE (pgi p) (pgs p) (pgd p) = 1 := if_neg hg
          rw [hge]
          go_wp2
          go_ret
          exact ⟨ret_int EV.out.symm, BE2.out⟩
    · have EV := Lib.hid (show e0 = 0 by rw [← hek, List.drop_of_length_le (by rw [HN.out]; omega)]; rfl)
      have BL := Lib.hid hbl
      clear hek hbl
      go_wp2
      go_ret
      exact ⟨ret_int EV.out.symm, BL.out⟩
end Go.Proofs.YthimchhnhhchkaaGreatDoor

namespace Go.Proofs.YthimchhnhhchkaaGreatDoor
open Go.RowKit Go.Lib
set_option linter.unusedSimpArgs false
set_option linter.unusedVariables false







theorem more_true {a b : ByteArray} (h : lessB a b = true) : Op.bytesLess b.toList a.toList = false ∧ (b.toList == a.toList) = false := by
  have := less_total a.toList b.toList
  unfold lessB at h
  rw [h] at this
  simpa using this.symm
theorem more_false {a b : ByteArray} (h : lessB a b = false) : Op.bytesLess b.toList a.toList = true ∨ (Op.bytesLess b.toList a.toList = false ∧ (b.toList == a.toList) = true) := by
  have := less_total a.toList b.toList
  unfold lessB at h
  rw [h] at this
  cases hb : Op.bytesLess b.toList a.toList
  · right
    rw [hb] at this
    exact ⟨rfl, by simpa using this.symm⟩
  · exact .inl rfl

















































































































































end Go.Proofs.YthimchhnhhchkaaGreatDoor
