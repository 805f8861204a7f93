/- hwref.Peers, walked. -/
import Derived.Test.YteojecbmmijccaaPeChk
import Derived.Test.YteojecbmmijccaaWithin
namespace Go.Proofs.Yteojecbmmijccaa
open Go.RowKit Go.Lib
set_option linter.unusedSimpArgs false
set_option linter.unusedVariables false

theorem rtime_any (x : Int) (w : World) :
    Calls Try.prog 20 #[.int .i64 x] w fun e w' => e = .returned (.bool (wi x 0 1073741824)) ∧ w = w' := by
  go_enter Try.func20, Try.ntmps20
  go_wp2_with (go_at_call 23; refine (within_any _ _ _ _).mono ?_; rintro e w' ⟨rfl, rfl⟩)
  all_goals (go_ret; simp [*])
theorem more_true {a b : ByteArray} (h : lessB a b = true) : Op.bytesLess b.toList a.toList = false ∧ (b.toList == a.toList) = false := by
  have := less_total a.toList b.toList
  unfold lessB at h
  rw [h] at this
  simpa using this.symm
theorem more_false {a b : ByteArray} (h : lessB a b = false) : Op.bytesLess b.toList a.toList = true ∨ (Op.bytesLess b.toList a.toList = false ∧ (b.toList == a.toList) = true) := by
  have := less_total a.toList b.toList
  unfold lessB at h
  rw [h] at this
  cases hb : Op.bytesLess b.toList a.toList
  · right
    rw [hb] at this
    exact ⟨rfl, by simpa using this.symm⟩
  · exact .inl rfl

set_option maxHeartbeats 4000000 in
set_option maxRecDepth 100000 in
theorem rpeers_is (A : Option Addr) (c B n : Nat) (l : List PeerT) (hm : n ≤ maxLen) (e0 : Int) (he : peersE l = e0) (w : World) (hp : Peers w B A n l) (hB : B ≤ w.heap.size) :
    Calls Try.prog 6 #[.slice A n c] w fun e w' => e = .returned (.int .i64 e0) ∧ Below w.heap.size w w' := by
  have HP := Lib.hid hp
  have HBB := Lib.hid hB
  have HN := Lib.hid hp.len
  clear hp hB
  by_cases h6 : 6 < n
  · have h6' : 6 < (n : Int) := by omega
    have he2 : e0 = 2 := by rw [← he]; unfold peersE; rw [if_pos (by rw [HN.out]; exact h6)]
    subst he2
    clear he
    go_enter Try.func6, Try.ntmps6
    go_wp2
    go_ret
    exact ⟨rfl, Below.refl _ _⟩
  have HE := Lib.hid (show chkE ⟨#[]⟩ l = e0 by rw [← he]; unfold peersE; rw [if_neg (by rw [HN.out]; exact h6)])
  clear he
  go_enter Try.func6, Try.ntmps6
  go_wp2_with fail
  go_loopw [3, 13] (fun sv iv wr => ∃ k : Nat, k ≤ n ∧ sv = .string (prevId l k) ∧ iv = .int .i64 (k : Int) ∧ chkE (prevId l k) (l.drop k) = e0 ∧ Below w.heap.size w wr) (fun _ iv _ => n - (RowKit.intOf iv).toNat)
  case atStart => exact ⟨0, by omega, rfl, rfl, by simpa [prevId] using HE.out, Below.refl _ _⟩
  case round =>
    obtain ⟨k, hk, rfl, rfl, hek, hbl⟩ := hrel
    obtain ⟨wo, rfl⟩ : ∃ wo, wo = wr := ⟨_, rfl⟩
    by_cases hlt : k < n
    · have hkl : k < l.length := by rw [HN.out]; exact hlt
      obtain ⟨b, off, rfl, hb, hcs⟩ := (HP.out.below hbl HBB.out).addr (by omega)
      have hpc := hcs k hkl
      have hok := ((HP.out.below hbl HBB.out)).ok _ (List.getElem_mem hkl)
      have hck := chk_drop l (prevId l k) k hkl
      rw [hek] at hck
      have hnx := prevId_succ l k hkl
      generalize hpe : l[k]'hkl = p at *
      obtain ⟨c0, c1, c2, c3, c4, c5, c6⟩ := hpc
      have HCK := Lib.hid hck
      have HNX := Lib.hid hnx
      have BL := Lib.hid hbl
      have OK := Lib.hid hok
      have hvl : (pvals p).length ≤ maxLen := Nat.le_trans hok.2.1 hok.2.2.1
      have hBo : B ≤ wo.heap.size := Nat.le_trans HBB.out hbl.size
      have E := Lib.hid ((Env.start wo).lay (pcells p).toArray 34)
      simp only [pcells] at E
      clear hck hnx hbl hok hcs hek hpe
      generalize prevId l k = pv at *
      go_wp2_with fail
      refine (rid_any (pid p) _).mono ?_
      rintro e' w1 ⟨rfl, hb1⟩
      have E1 := Lib.hid (E.out.below hb1)
      have BE1 := Lib.hid (BL.out.trans (E1.out.bel.mono BL.out.size))
      clear hb1
      have x0 := E1.out.hd.cell 0
      have x1 := E1.out.hd.cell 1
      have x2 := E1.out.hd.cell 2
      have x3 := E1.out.hd.cell 3
      have x4 := E1.out.hd.cell 4
      have x5 := E1.out.hd.cell 5
      have x6 := E1.out.hd.cell 6
      simp at x0 x1 x2 x3 x4 x5 x6
      cases hid : idB (pid p)
      · have EV := Lib.hid (show e0 = 3 by have := HCK.out; unfold peerE at this; rw [hid] at this; simpa using this)
        clear hid
        go_wp2
        go_ret
        exact ⟨ret_int EV.out.symm, BE1.out⟩
      · go_wp2_with fail
        refine (rgate_any (pgi p) (pgs p) (pgd p) _).mono ?_
        rintro e' w2 ⟨rfl, hb2⟩
        have E2 := Lib.hid (E1.out.below hb2)
        have BE2 := Lib.hid (BL.out.trans (E2.out.bel.mono BL.out.size))
        clear hb2 x0 x1 x2 x3 x4 x5 x6
        have x0 := E2.out.hd.cell 0
        have x1 := E2.out.hd.cell 1
        have x2 := E2.out.hd.cell 2
        have x3 := E2.out.hd.cell 3
        have x4 := E2.out.hd.cell 4
        have x5 := E2.out.hd.cell 5
        have x6 := E2.out.hd.cell 6
        simp at x0 x1 x2 x3 x4 x5 x6
        by_cases hg : GateOk (pgi p) (pgs p) (pgd p)
        · have hge : gateE (pgi p) (pgs p) (pgd p) = 0 := if_pos hg
          rw [hge]
          clear hge
          go_wp2_with fail
          refine (rwin_is (pcap p) p.2.1 p.2.2 B (pvals p).length (pvals p) rfl _ rfl hvl _ (OK.out.1.below E2.out.bel hBo) (Nat.le_trans hBo E2.out.bel.size)).mono ?_
          rintro e' w3 ⟨rfl, hb3⟩
          have E3 := Lib.hid (E2.out.below hb3)
          have BE3 := Lib.hid (BL.out.trans (E3.out.bel.mono BL.out.size))
          clear hb3 x0 x1 x2 x3 x4 x5 x6
          have x0 := E3.out.hd.cell 0
          have x1 := E3.out.hd.cell 1
          have x2 := E3.out.hd.cell 2
          have x3 := E3.out.hd.cell 3
          have x4 := E3.out.hd.cell 4
          have x5 := E3.out.hd.cell 5
          have x6 := E3.out.hd.cell 6
          simp at x0 x1 x2 x3 x4 x5 x6
          by_cases hw : winE (pcap p) (pvals p) = 0
          · rw [hw]
            go_wp2_with fail
            refine (rtime_any (plast p) _).mono ?_
            rintro e' w' ⟨rfl, rfl⟩
            cases hlw : wi (plast p) 0 1073741824
            · have EV := Lib.hid (show e0 = 1 by have := HCK.out; unfold peerE at this; rw [hid] at this; simpa [hg, hw, hlw] using this)
              clear hlw hw hg hid
              go_wp2
              all_goals first
                | (exfalso; omega)
                | (go_ret; exact ⟨ret_int EV.out.symm, BE3.out⟩)
            · have HC2 := Lib.hid (show e0 = if lessB pv (pid p) = true then chkE (pid p) (l.drop (k + 1)) else 3 by have := HCK.out; unfold peerE at this; rw [hid] at this; simpa [hg, hw, hlw] using this)
              clear hid hw hg hlw
              cases hle : lessB pv (pid p)
              · have EV := Lib.hid (show e0 = 3 by have := HC2.out; rw [hle] at this; simpa using this)
                rcases more_false hle with hq | ⟨hq, hq2⟩
                · clear hle
                  go_wp2
                  all_goals (go_ret; exact ⟨ret_int EV.out.symm, BE3.out⟩)
                · clear hle
                  go_wp2
                  all_goals (go_ret; exact ⟨ret_int EV.out.symm, BE3.out⟩)
              · have EV := Lib.hid (show chkE (prevId l (k + 1)) (l.drop (k + 1)) = e0 by have := HC2.out; rw [hle, if_pos rfl] at this; rw [HNX.out]; exact this.symm)
                obtain ⟨hq, hq2⟩ := more_true hle
                clear hle
                go_wp2
                exact ⟨⟨k + 1, by omega, by rw [HNX.out], by simp, EV.out, BE3.out⟩, by simp [RowKit.intOf]; omega⟩
          · have EV := Lib.hid (show e0 = winE (pcap p) (pvals p) by have := HCK.out; unfold peerE at this; rw [hid] at this; simpa [hg, hw] using this)
            generalize winE (pcap p) (pvals p) = ew at *
            go_wp2
            all_goals first
              | (exfalso; omega)
              | (go_ret; exact ⟨ret_int EV.out.symm, BE3.out⟩)
        · have EV := Lib.hid (show e0 = 1 by have := HCK.out; unfold peerE at this; rw [hid] at this; simpa [hg] using this)
          have hge : gateE (pgi p) (pgs p) (pgd p) = 1 := if_neg hg
          rw [hge]
          go_wp2
          go_ret
          exact ⟨ret_int EV.out.symm, BE2.out⟩
    · have EV := Lib.hid (show e0 = 0 by rw [← hek, List.drop_of_length_le (by rw [HN.out]; omega)]; rfl)
      have BL := Lib.hid hbl
      clear hek hbl
      go_wp2
      go_ret
      exact ⟨ret_int EV.out.symm, BL.out⟩
end Go.Proofs.Yteojecbmmijccaa
