/- peers.Copied, walked. (with what it needs) -/
import Derived.Test.YtcikljcjhijjdaaGreatM32
import Derived.Lib.OwnKind
import Derived.Deep.DeepCutAuto
import Derived.Test.YtcikljcjhijjdaaGreatM11
namespace Go.Proofs.YtcikljcjhijjdaaGreat
open Go.RowKit Go.Lib
set_option linter.unusedSimpArgs false
set_option linter.unusedVariables false

theorem peer_info : (Tryz.prog.info? 94).map (fun i => (i.zero, i.size, i.bytes)) = some (some (.agg #[.string ByteArray.empty, .int .i64 0, .int .i64 0, .int .i64 0, .int .i64 0, .slice none 0 0, .int .i64 0]), 7, 80) := by kernel_rfl
theorem rowsN_apart {w : World} {H H' n n' s s' : Nat} {e e' : TypeId} {v v' : Value} {xs ys : List Value} (h : w.ownsRow H e s v n xs) (h' : w.ownsRow H' e' s' v' n' ys) (hne : e ≠ e') (b : Nat) (hb : v.ownBlock = some b) : v'.ownBlock ≠ some b := by
  intro hb'
  obtain ⟨c, fz, h1⟩ := ownsRow_kind h b hb
  obtain ⟨c', fz', h2⟩ := ownsRow_kind h' b hb'
  rw [h1] at h2
  injection h2 with h2
  injection h2 with _ h3
  exact hne h3
theorem row_blk_ne {w : World} {H n s g : Nat} {e t : TypeId} {v : Value} {xs : List Value} {cs : Array Value} (h : w.ownsRow H e s v n xs) (hb : Blk w g t cs) (hne : e ≠ t) : v.ownBlock ≠ some g := by
  intro hv
  obtain ⟨c, fz, h1⟩ := ownsRow_kind h g hv
  have h2 : w.heap[g]? = some (.cells cs t (0, 0)) := hb
  rw [h1] at h2
  injection h2 with h2
  injection h2 with _ h3
  exact hne h3
/-- the windows' values are the call's own -/
def ValsOwn (H : Nat) (w : World) (l : List PeerT) : Prop := ∀ p ∈ l, w.ownsRow H 3 1 (psl p) (pvals p).length (cellsI (pvals p))
section
variable {H n : Nat} {w w' : World} {l : List PeerT}
theorem ValsOwn.nil : ValsOwn H w [] := fun p hp => by cases hp
theorem ValsOwn.alloc (h : ValsOwn H w l) (o : Obj) : ValsOwn H (w.alloc o) l := fun p hp => (h p hp).alloc o
theorem ValsOwn.below (h : ValsOwn H w l) (hb : Below w.heap.size w w') : ValsOwn H w' l := fun p hp => ownsRow_below (h p hp) hb
theorem ValsOwn.snoc {p : PeerT} (h : ValsOwn H w l) (hp : w.ownsRow H 3 1 (psl p) (pvals p).length (cellsI (pvals p))) : ValsOwn H w (l ++ [p]) := fun q hq => by
  rcases List.mem_append.1 hq with hq | hq
  · exact h q hq
  · obtain rfl := List.mem_singleton.1 hq
    exact hp
theorem ValsOwn.set_ (h : ValsOwn H w l) {g : Nat} {t : TypeId} {cs : Array Value} (hb : Blk w g t cs) (hne : 3 ≠ t) (i : Nat) (v : Value) : ValsOwn H (w.setCell ⟨g, i, none⟩ v) l := fun p hp =>
  ownsRow_setCell_other (h p hp) (a := ⟨g, i, none⟩) (row_blk_ne (h p hp) hb hne) v
theorem ValsOwn.kept {u : Value} {H' m : Nat} {xs : List Value} {s : Nat} {t : TypeId} (h : ValsOwn H w l) (hu : w.ownsRow H' t s u m xs) (ht : t ≠ 3) (hg : w.grownBy w' u.ownBlock) : ValsOwn H w' l := fun p hp => by
  refine (h p hp).kept hg ?_
  cases hq : (psl p).ownBlock with
  | none => exact .inl rfl
  | some b => exact .inr fun e => rowsN_apart hu (h p hp) ht b e.symm hq
end
theorem reads_peer (w : World) (e : TypeId) (p : PeerT) : Reads (w.alloc (.cells (pcells p).toArray e)) (w.heap.size + 1) 7 (some ⟨w.heap.size, 0, none⟩) 1 (cellsP [p]) :=
  ⟨rfl, fun _ => ⟨_, rfl, by simp, fun j u hj => by
    have hc := (Blk.new w e (pcells p).toArray).cell j
    have hadd : (⟨w.heap.size, 0, none⟩ : Addr).add j = ⟨w.heap.size, j, none⟩ := by unfold Addr.add; split <;> simp_all
    rw [hadd, hc, ← hj]
    simp [cellsP]⟩⟩
/-- a copy of peers: their data, in memory of the call's own -/
def CopyIs (l : List PeerT) (n : Nat) (w : World) (e : Ending) (w' : World) : Prop :=
  ∃ A c l', e = .returned (.slice A n c) ∧ l'.map Prod.fst = l.map Prod.fst ∧ w'.ownsRow w.heap.size 94 7 (.slice A n c) n (cellsP l') ∧ ValsOwn w.heap.size w' l' ∧ Below w.heap.size w w'

set_option maxHeartbeats 4000000 in
set_option maxRecDepth 100000 in
theorem copied_is (A : Option Addr) (c B n : Nat) (l : List PeerT) (hm : n ≤ 1000) (h64 : ∀ p ∈ l, (pvals p).length ≤ 64) (w : World) (hp : Peers w B A n l) (hB : B ≤ w.heap.size) :
    Calls Tryz.prog 66 #[.slice A n c] w (CopyIs l n w) := by
  obtain ⟨i0, hi, hz0, hz1, hz2⟩ := info_parts peer_info
  have HP := Lib.hid hp
  have HBB := Lib.hid hB
  have HN := Lib.hid hp.len
  have H64 := Lib.hid h64
  clear hp hB h64
  go_enter Tryz.func66, Tryz.ntmps66
  go_wp2_with fail
  go_loopw [3, 8] (fun v iv wr => ∃ (k : Nat) (l' : List PeerT), k ≤ n ∧ iv = .int .i64 (k : Int) ∧ l'.map Prod.fst = (l.take k).map Prod.fst ∧ wr.ownsRow w.heap.size 94 7 v k (cellsP l') ∧ ValsOwn w.heap.size wr l' ∧ Below w.heap.size w wr) (fun _ iv _ => n - (RowKit.intOf iv).toNat)
  case atStart => exact ⟨0, [], by omega, rfl, rfl, ⟨rfl, .inl ⟨rfl, rfl⟩⟩, ValsOwn.nil, Below.refl _ _⟩
  case round =>
    obtain ⟨k, l', hk, rfl, hmap, hown, hvo, hbl⟩ := hrel
    obtain ⟨wo, rfl⟩ : ∃ wo, wo = wr := ⟨_, rfl⟩
    obtain ⟨A1, c1, rfl⟩ := ownsRow_len hown
    have MP := Lib.hid hmap
    have OW := Lib.hid hown
    have VO := Lib.hid hvo
    have BL := Lib.hid hbl
    clear hmap hown hvo hbl
    by_cases hlt : k < n
    · have hkl : k < l.length := by rw [HN.out]; exact hlt
      have HPW := Lib.hid (HP.out.below BL.out HBB.out)
      obtain ⟨b, off, rfl, hb, hcs⟩ := HPW.out.addr (by omega)
      obtain ⟨c0, c1', c2, c3, c4, c5, c6⟩ := hcs k hkl
      have hok := HPW.out.ok _ (List.getElem_mem hkl)
      have h64k := H64.out _ (List.getElem_mem hkl)
      have htk : (l.take (k + 1)).map Prod.fst = (l.take k).map Prod.fst ++ [(l[k]'hkl).1] := by rw [List.take_succ_eq_append_getElem hkl, List.map_append]; rfl
      have hBo : B ≤ wo.heap.size := Nat.le_trans HBB.out BL.out.size
      generalize l[k]'hkl = p at *
      have TK := Lib.hid htk
      have E := Lib.hid ((Env.start wo).lay (pcells p).toArray 94)
      have HCL := Lib.hid (fun w hr hB => clone_any p.2.1 p.2.2 B (pvals p).length (pvals p) rfl (by omega) w hr hB)
      have OK := Lib.hid hok
      simp only [pcells] at E
      clear hcs htk hok
      go_wp2_with fail
      refine (HCL.out _ (OK.out.1.below E.out.bel hBo) (Nat.le_trans hBo E.out.bel.size)).mono ?_
      rintro e' w1 ⟨A4, c4', rfl, hown4, hb4⟩
      have E1 := Lib.hid (E.out.below hb4)
      have OW1 := Lib.hid (ownsRow_below (OW.out.alloc _) hb4)
      have VO1 := Lib.hid ((VO.out.alloc _).below hb4)
      have OV := Lib.hid (ownsRow_base hown4 (by have := BL.out.size; simp; omega : w.heap.size ≤ _))
      have BL1 := Lib.hid (BL.out.trans (E1.out.bel.mono BL.out.size))
      clear hown4 hb4
      have x0 := E1.out.hd.cell 0
      have x1 := E1.out.hd.cell 1
      have x2 := E1.out.hd.cell 2
      have x3 := E1.out.hd.cell 3
      have x4 := E1.out.hd.cell 4
      have x5 := E1.out.hd.cell 5
      have x6 := E1.out.hd.cell 6
      have f5 := E1.out.hd.frozen 5
      simp at x0 x1 x2 x3 x4 x5 x6
      go_upto_region 6 with fail
      have K2 := Lib.hid (show Blk (w1.setCell ⟨wo.heap.size, 5, none⟩ (.slice A4 (pvals p).length c4')) wo.heap.size 94 (pcells (p.1, A4, c4')).toArray by simpa [pcells] using E1.out.hd.set_ 5 (.slice A4 (pvals p).length c4'))
      have OW2 := Lib.hid (ownsRow_setCell_other OW1.out (a := ⟨wo.heap.size, 5, none⟩) (fun e => by have := (OW.out.lt _ e).2; simp at this) (.slice A4 (pvals p).length c4'))
      have VO2 := Lib.hid (VO1.out.set_ E1.out.hd (by decide) 5 (.slice A4 (pvals p).length c4'))
      have OV2 := Lib.hid (ownsRow_setCell_other OV.out (a := ⟨wo.heap.size, 5, none⟩) (row_blk_ne OV.out E1.out.hd (by decide)) (.slice A4 (pvals p).length c4'))
      have BL2 := Lib.hid (BL1.out.setCell (p := ⟨wo.heap.size, 5, none⟩) (by have := BL.out.size; exact this) (.slice A4 (pvals p).length c4'))
      clear x0 x1 x2 x3 x4 x5 x6 f5 E E1 OW1 VO1 OV BL1
      generalize hW2 : w1.setCell _ _ = w2 at *
      clear hW2
      have x0 := K2.out.cell 0
      have x1 := K2.out.cell 1
      have x2 := K2.out.cell 2
      have x3 := K2.out.cell 3
      have x4 := K2.out.cell 4
      have x5 := K2.out.cell 5
      have x6 := K2.out.cell 6
      simp [pcells] at x0 x1 x2 x3 x4 x5 x6
      go_wp2_with (at_builtin; refine wpList_append_any _ rfl _ _ 33 rfl w.heap.size 94 i0 _ 7 80 Tryz.underlying33 hi hz0 hz1 hz2 rfl (by decide) _ _ _ rfl (OW2.out.alloc _) _ _ 1 _ _ rfl (reads_peer w2 _ (p.1, A4, c4')) (oneCell_peers [(p.1, A4, c4')]) ?c1 ?c2 ?c3 ?_)
      case c1 => unfold maxLen; omega
      case c2 => omega
      case c3 => have := BL2.out.size; simp; omega
      intro v3 w3 ho3 hg3 hn3
      obtain ⟨A3, c3', rfl⟩ := ownsRow_len ho3
      have VO3 := Lib.hid (((VO2.out.snoc (p := (p.1, A4, c4')) OV2.out).alloc _).kept (OW2.out.alloc _) (by decide) hg3)
      have BL3 := Lib.hid ((BL2.out.alloc BL2.out.size _).grown hg3 (by have := BL2.out.size; simp; omega) (fun k hk => (OW2.out.lt k hk).1))
      have O3 := Lib.hid (show w3.ownsRow w.heap.size 94 7 (.slice A3 (k + 1) c3') (k + 1) (cellsP (l' ++ [(p.1, A4, c4')])) by rw [cellsP_app]; exact ho3)
      have M3 := Lib.hid (show (l' ++ [(p.1, A4, c4')]).map Prod.fst = (l.take (k + 1)).map Prod.fst by rw [TK.out, List.map_append, MP.out]; rfl)
      clear ho3 hg3 hn3 x0 x1 x2 x3 x4 x5 x6 OW2 VO2 OV2 BL2 K2
      go_wp2
      exact ⟨⟨k + 1, l' ++ [(p.1, A4, c4')], by omega, by simp, M3.out, O3.out, VO3.out, BL3.out⟩, by simp [RowKit.intOf]; omega⟩
    · obtain rfl : k = n := by omega
      have hmp : l'.map Prod.fst = l.map Prod.fst := by rw [MP.out, List.take_of_length_le (by rw [HN.out]; exact Nat.le_refl _)]
      have MM := Lib.hid hmp
      clear hmp
      go_wp2
      go_ret
      exact ⟨A1, c1, l', rfl, MM.out, OW.out, VO.out, BL.out⟩
end Go.Proofs.YtcikljcjhijjdaaGreat

namespace Go.Proofs.YtcikljcjhijjdaaGreat
open Go.RowKit Go.Lib
set_option linter.unusedSimpArgs false
set_option linter.unusedVariables false

set_option maxHeartbeats 1000000 in
set_option maxRecDepth 100000 in
theorem same_peer (p q : PeerT) (hpq : p.1 = q.1) (h64 : (pvals p).length ≤ 100000) (B : Nat) (w : World) (hp : PeerOk w B p) (hq : PeerOk w B q) (hB : B ≤ w.heap.size) :
    Calls Tryz.prog 65 #[pagg p, pagg q] w fun e w' => e = .returned (.bool true) ∧ Below w.heap.size w w' := by
  obtain ⟨⟨id, ⟨gi, gs, gd⟩, cap, l, last⟩, A, c⟩ := p
  obtain ⟨d', A', c'⟩ := q
  subst hpq
  have E := Lib.hid (((Env.start w).lay #[.string id, .int .i64 gi, .int .i64 gs, .int .i64 gd, .int .i64 cap, .slice A l.length c, .int .i64 last] 94).lay #[.string id, .int .i64 gi, .int .i64 gs, .int .i64 gd, .int .i64 cap, .slice A' l.length c', .int .i64 last] 94)
  have R1 := Lib.hid hp.1
  have R2 := Lib.hid hq.1
  simp only [pvals] at R1 R2 h64
  clear hp hq
  unfold pagg pcells
  simp only [pid, pgi, pgs, pgd, pcap, psl, plast, pvals]
  generalize hn : l.length = n at *
  have HN := Lib.hid hn
  clear hn
  go_enter Tryz.func65, Tryz.ntmps65
  go_wp2_with fail
  refine (swin_yes cap A A' c c' B n n l HN.out HN.out (by omega) _ (R1.out.below E.out.bel hB) (R2.out.below E.out.bel hB) (Nat.le_trans hB E.out.bel.size)).mono ?_
  rintro e' w1 ⟨rfl, hb1⟩
  have E1 := Lib.hid (E.out.below hb1)
  have x6 := E1.out.hd.cell 6
  have y6 := E1.out.tl.hd.cell 6
  simp at x6 y6
  clear hb1
  go_wp2
  go_ret
  exact ⟨rfl, E1.out.bel⟩

set_option maxHeartbeats 2000000 in
set_option maxRecDepth 100000 in
theorem equal_peers (A A' : Option Addr) (c c' B n : Nat) (l l' : List PeerT) (hm : n ≤ 1000) (hmap : l.map Prod.fst = l'.map Prod.fst) (h64 : ∀ p ∈ l, (pvals p).length ≤ 100000) (w : World) (hp : Peers w B A n l) (hp' : Peers w B A' n l') (hB : B ≤ w.heap.size) :
    Calls Tryz.prog 64 #[.slice A n c, .slice A' n c', .func (.func 65) #[] #[]] w fun e w' => e = .returned (.bool true) ∧ Below w.heap.size w w' := by
  have HP := Lib.hid hp
  have HP' := Lib.hid hp'
  have HBB := Lib.hid hB
  have HN := Lib.hid hp.len
  have HN' := Lib.hid hp'.len
  have H64 := Lib.hid h64
  have HM := Lib.hid hmap
  have HSP := Lib.hid (fun p q hpq h64 B w hp hq hB => same_peer p q hpq h64 B w hp hq hB)
  simp only [pagg, pcells] at HSP
  clear hp hp' hB h64 hmap
  go_enter Tryz.func64, Tryz.ntmps64
  go_wp2_with fail
  go_loopw [17] (fun iv wr => ∃ k : Nat, k ≤ n ∧ iv = .int .i64 (k : Int) ∧ Below w.heap.size w wr) (fun iv _ => n - (RowKit.intOf iv).toNat)
  case atStart => exact ⟨0, by omega, rfl, Below.refl _ _⟩
  case round =>
    obtain ⟨k, hk, rfl, hbl⟩ := hrel
    obtain ⟨wo, rfl⟩ : ∃ wo, wo = wr := ⟨_, rfl⟩
    have BL := Lib.hid hbl
    clear hbl
    by_cases hlt : k < n
    · have hkl : k < l.length := by rw [HN.out]; exact hlt
      have hkl' : k < l'.length := by rw [HN'.out]; exact hlt
      have hBo : B ≤ wo.heap.size := Nat.le_trans HBB.out BL.out.size
      have HPW := Lib.hid (HP.out.below BL.out HBB.out)
      have HPW' := Lib.hid (HP'.out.below BL.out HBB.out)
      obtain ⟨b, off, rfl, hb, hcs⟩ := HPW.out.addr (by omega)
      obtain ⟨b', off', rfl, hb', hcs'⟩ := HPW'.out.addr (by omega)
      obtain ⟨c0, c1, c2, c3, c4, c5, c6⟩ := hcs k hkl
      obtain ⟨d0, d1, d2, d3, d4, d5, d6⟩ := hcs' k hkl'
      have hok := HPW.out.ok _ (List.getElem_mem hkl)
      have hok' := HPW'.out.ok _ (List.getElem_mem hkl')
      have h64k := H64.out _ (List.getElem_mem hkl)
      have hpq : (l[k]'hkl).1 = (l'[k]'hkl').1 := by
        have e1 : (l.map Prod.fst)[k]? = some (l[k]'hkl).1 := by rw [List.getElem?_map, List.getElem?_eq_getElem hkl]; rfl
        have e2 : (l'.map Prod.fst)[k]? = some (l'[k]'hkl').1 := by rw [List.getElem?_map, List.getElem?_eq_getElem hkl']; rfl
        rw [HM.out, e2] at e1
        injection e1 with e1
        exact e1.symm
      generalize l[k]'hkl = p at *
      generalize l'[k]'hkl' = q at *
      have HPQ := Lib.hid hpq
      have OK := Lib.hid hok
      have OK' := Lib.hid hok'
      have E := Lib.hid (((Env.start wo).lay (pcells p).toArray 94).lay (pcells q).toArray 94)
      simp only [pcells] at E
      have hb2 : b' < wo.heap.size := Nat.lt_of_lt_of_le hb' hBo
      have hb1 : b < wo.heap.size := Nat.lt_of_lt_of_le hb hBo
      clear hcs hcs' hok hok' hpq
      go_wp2_with fail
      refine (HSP.out p q HPQ.out h64k B _ (OK.out.below E.out.bel hBo) (OK'.out.below E.out.bel hBo) (Nat.le_trans hBo E.out.bel.size)).mono ?_
      rintro e' w1 ⟨rfl, hb1⟩
      have BL1 := Lib.hid (BL.out.trans ((E.out.below hb1).bel.mono BL.out.size))
      clear hb1
      go_wp2
      exact ⟨⟨k + 1, by omega, by simp, BL1.out⟩, by simp [RowKit.intOf]; omega⟩
    · go_wp2
      go_ret
      exact ⟨rfl, BL.out⟩
set_option maxRecDepth 100000 in
theorem same_peers (A A' : Option Addr) (c c' B n : Nat) (l l' : List PeerT) (hm : n ≤ 1000) (hmap : l.map Prod.fst = l'.map Prod.fst) (h64 : ∀ p ∈ l, (pvals p).length ≤ 100000) (w : World) (hp : Peers w B A n l) (hp' : Peers w B A' n l') (hB : B ≤ w.heap.size) :
    Calls Tryz.prog 29 #[.slice A n c, .slice A' n c'] w fun e w' => e = .returned (.bool true) ∧ Below w.heap.size w w' := by
  have HE := Lib.hid (equal_peers A A' c c' B n l l' hm hmap h64 w hp hp' hB)
  clear hp hp' hmap h64
  go_enter Tryz.func29, Tryz.ntmps29
  go_wp2_with fail
  refine HE.out.mono ?_
  rintro e' w1 ⟨rfl, hb1⟩
  have BL1 := Lib.hid hb1
  clear hb1
  go_wp2
  go_ret
  exact ⟨rfl, BL1.out⟩
end Go.Proofs.YtcikljcjhijjdaaGreat

namespace Go.Proofs.YtcikljcjhijjdaaGreat
open Go.RowKit Go.Lib
set_option linter.unusedSimpArgs false
set_option linter.unusedVariables false

theorem cellsP_set : ∀ (l : List PeerT) (k j : Nat) (v : Value) (p' : PeerT) (h : k < l.length), j < 7 → (pcells (l[k]'h)).set j v = pcells p' → (cellsP l).set (k * 7 + j) v = cellsP (l.set k p')
  | [], k, j, v, p', h, _, _ => by simp at h
  | p :: l, 0, j, v, p', _, hj, hp => by
    simp only [cellsP, List.set_cons_zero]
    rw [Nat.zero_mul, Nat.zero_add, List.set_append_left _ _ (by rw [pcells_len]; exact hj)]
    rw [← hp]
    rfl
  | p :: l, k + 1, j, v, p', h, hj, hp => by
    simp only [cellsP, List.set_cons_succ]
    rw [List.set_append_right _ _ (by rw [pcells_len]; omega), pcells_len, show (k + 1) * 7 + j - 7 = k * 7 + j by omega, cellsP_set l k j v p' (by simpa using h) hj (by simpa using hp)]
def RowP (w : World) (g cap n : Nat) (l : List PeerT) : Prop := l.length = n ∧ n ≤ cap ∧ cap ≤ maxLen ∧ ∃ cur, Blk w g 94 cur ∧ cur.size = cap * 7 ∧ cur.toList.take (n * 7) = cellsP l
section
variable {w w' : World} {g cap n H : Nat} {l : List PeerT}
theorem RowP.of_own {A : Option Addr} {c : Nat} (h : w.ownsRow H 94 7 (.slice A n c) n (cellsP l)) (hn : 0 < n) (hl : l.length = n) : ∃ g, A = some ⟨g, 0, none⟩ ∧ H ≤ g ∧ g < w.heap.size ∧ RowP w g c n l := by
  rcases h.2 with ⟨_, h0⟩ | ⟨g, cap, cur, hv, hbg, hg, hnc, hmc, hsz, hx⟩
  · omega
  · injection hv with h1 h2 h3
    subst h1 h3
    exact ⟨g, rfl, hbg, (Array.getElem?_eq_some_iff.1 hg).1, hl, hnc, hmc, cur, hg, hsz, hx⟩
theorem RowP.blk (h : RowP w g cap n l) : ∃ cur, Blk w g 94 cur := by
  obtain ⟨h0, h1, h2, cur, h3, h4, h5⟩ := h
  exact ⟨cur, h3⟩
theorem RowP.lt (h : RowP w g cap n l) : g < w.heap.size := by
  obtain ⟨cur, hc⟩ := h.blk
  exact hc.lt
theorem RowP.frozen (h : RowP w g cap n l) (j : Nat) : w.frozen? ⟨g, j, none⟩ = false := by
  obtain ⟨cur, hc⟩ := h.blk
  exact hc.frozen j
theorem RowP.cells (h : RowP w g cap n l) (k : Nat) (hk : k < l.length) : PeerC w g (k * 7) (l[k]'hk) := by
  obtain ⟨h0, h1, h2, cur, h3, h4, h5⟩ := h
  have at' : ∀ j v, j < 7 → (pcells (l[k]'hk))[j]? = some v → w.cell? ⟨g, k * 7 + j, none⟩ = some v := fun j v hj hv => by
    rw [h3.cell, ← hv, ← cellsP_at l k j hk hj, ← h5, List.getElem?_take, if_pos (by omega)]
    simp
  exact ⟨at' 0 _ (by decide) rfl, at' 1 _ (by decide) rfl, at' 2 _ (by decide) rfl, at' 3 _ (by decide) rfl, at' 4 _ (by decide) rfl, at' 5 _ (by decide) rfl, at' 6 _ (by decide) rfl⟩
theorem RowP.set_ (h : RowP w g cap n l) (k j : Nat) (v : Value) (p' : PeerT) (hk : k < l.length) (hj : j < 7) (hp : (pcells (l[k]'hk)).set j v = pcells p') : RowP (w.setCell ⟨g, k * 7 + j, none⟩ v) g cap n (l.set k p') := by
  obtain ⟨h0, h1, h2, cur, h3, h4, h5⟩ := h
  exact ⟨by simpa using h0, h1, h2, _, h3.set_ (k * 7 + j) v, by simpa using h4, by rw [← cellsP_set l k j v p' hk hj hp, ← h5, Array.toList_setIfInBounds, List.take_set]⟩
theorem RowP.below (h : RowP w g cap n l) {B : Nat} (hb : Below B w w') (hg : g < B) : RowP w' g cap n l := by
  obtain ⟨h0, h1, h2, cur, h3, h4, h5⟩ := h
  exact ⟨h0, h1, h2, cur, h3.below hb hg, h4, h5⟩
theorem RowP.reads (h : RowP w g cap n l) : Reads w w.heap.size 7 (some ⟨g, 0, none⟩) n (cellsP l) := by
  have hlt := h.lt
  obtain ⟨h0, h1, h2, cur, h3, h4, h5⟩ := h
  refine ⟨by rw [cellsP_len, h0], fun hn => ⟨_, rfl, hlt, fun j u hu => ?_⟩⟩
  have hadd : (⟨g, 0, none⟩ : Addr).add j = ⟨g, j, none⟩ := by unfold Addr.add; split <;> simp_all
  have hj : j < n * 7 := by
    have := (List.getElem?_eq_some_iff.1 hu).1
    rw [cellsP_len, h0] at this
    exact this
  rw [hadd, h3.cell, ← hu, ← h5, List.getElem?_take, if_pos hj]
  simp
theorem ValsOwn.ok (h : ValsOwn H w l) (hid : ∀ p ∈ l, (pid p).size ≤ maxLen) : ∀ p ∈ l, PeerOk w w.heap.size p := fun p hp => by
  have hr := h p hp
  have hc := ownsRow_cap hr
  exact ⟨Reads.of_own hr, hc.1, hc.2, hid p hp⟩
theorem ValsOwn.upd (h : ValsOwn H w l) {k : Nat} {p' : PeerT} (hp : w.ownsRow H 3 1 (psl p') (pvals p').length (cellsI (pvals p'))) : ValsOwn H w (l.set k p') := fun q hq => by
  rcases List.mem_or_eq_of_mem_set hq with hq | rfl
  · exact h q hq
  · exact hp
end
theorem Below.al5 {w W : World} {o : Obj} (h : Below w.heap.size w W) : Below w.heap.size w (W.alloc o) := h.alloc h.size _
theorem Below.thru5 {w X W : World} (h : Below w.heap.size w X) (h2 : Below X.heap.size X W) : Below w.heap.size w W := h.trans (h2.mono h.size)
/-- the blocks in which peers lie -/
def PBlk (A : Option Addr) (l : List PeerT) (P : Nat → Prop) : Prop := (0 < l.length → ∀ a, A = some a → P a.block) ∧ ∀ p ∈ l, 0 < (pvals p).length → ∀ a, p.2.1 = some a → P a.block
/-- peers that are new, or lie where others lay -/
def KeepsP (w : World) (A0 : Option Addr) (l0 : List PeerT) (A : Option Addr) (l : List PeerT) : Prop := ∀ P : Nat → Prop, (∀ k, w.heap.size ≤ k → P k) → PBlk A0 l0 P → PBlk A l P
theorem keeps_own {w w' : World} {g : Nat} {l l0 : List PeerT} {A0 : Option Addr} (hg : w.heap.size ≤ g) (hv : ValsOwn w.heap.size w' l) : KeepsP w A0 l0 (some ⟨g, 0, none⟩) l := fun P hP _ =>
  ⟨fun _ a ha => by cases ha; exact hP _ hg, fun p hp _ a ha => hP _ ((hv p hp).lt a.block (by simp only [psl, ha, Value.ownBlock])).1⟩
theorem keeps_set {w : World} {g k : Nat} {l : List PeerT} {A0 : Option Addr} {p' : PeerT} (hg : w.heap.size ≤ g) (hp : 0 < (pvals p').length → ∀ a, p'.2.1 = some a → w.heap.size ≤ a.block ∨ ∃ q ∈ l, 0 < (pvals q).length ∧ q.2.1 = some a) : KeepsP w A0 l (some ⟨g, 0, none⟩) (l.set k p') := fun P hP h0 =>
  ⟨fun _ a ha => by cases ha; exact hP _ hg, fun p hpm hl a ha => by
    rcases List.mem_or_eq_of_mem_set hpm with h | rfl
    · exact h0.2 p h hl a ha
    · rcases hp hl a ha with h | ⟨q, hq, hql, hqa⟩
      · exact hP _ h
      · exact h0.2 q hq hql a hqa⟩
/-- a value pushed into a window -/
def pushV (cap : Int) (l : List Int) (x : Int) : List Int := if (l.length : Int) < cap then l ++ [x] else l.tail ++ [x]
def PushedIs (cap : Int) (l : List Int) (w : World) (e : Ending) (w' : World) : Prop :=
  ∃ A c, e = .returned (.tuple #[.agg #[.int .i64 cap, .slice A l.length c], .int .i64 0]) ∧ w'.ownsRow w.heap.size 3 1 (.slice A l.length c) l.length (cellsI l) ∧ Below w.heap.size w w'
theorem push_any (cap x : Int) (A : Option Addr) (c B : Nat) (l : List Int) (hc : l.length ≤ c) (hm : c ≤ maxLen) (hcap : winE cap l = 0) (hx : wi x 0 16777216 = true) (w : World) (hr : Reads w B 1 A l.length (cellsI l)) (hB : B ≤ w.heap.size) :
    Calls Tryz.prog 81 #[.agg #[.int .i64 cap, .slice A l.length c], .int .i64 x] w (PushedIs cap (pushV cap l x) w) := by
  obtain ⟨c0, c1, c2, c3⟩ := winE_zero hcap
  unfold pushV
  by_cases hlt : (l.length : Int) < cap
  · rw [if_pos hlt]
    refine (push_tail cap x A c B l.length l rfl hc hm hcap hlt hx w hr hB).mono ?_
    rintro e w' ⟨A', c', rfl, h1, h2⟩
    exact ⟨A', c', by simp, by simpa using h1, h2⟩
  · rw [if_neg hlt]
    cases l with
    | nil => simp at hlt; omega
    | cons y t =>
      have hcp : cap = (t.length : Int) + 1 := by simp at hlt c2; omega
      subst hcp
      have hr' : Reads w B 1 A (t.length + 1) (cellsI (y :: t)) := hr
      obtain ⟨d, rfl⟩ : ∃ d, c = d + 1 := ⟨c - 1, by simp at hc; omega⟩
      by_cases hd : 1 ≤ d
      · refine (push_full x y A B t.length d t rfl hd (by simpa using hc) hm hcap hx w hr' hB).mono ?_
        rintro e w' ⟨A', c', rfl, h1, h2⟩
        exact ⟨A', c', by simp, by simpa using h1, h2⟩
      · have hd0 : d = 0 := by omega
        subst hd0
        have ht : t = [] := List.length_eq_zero_iff.1 (by simpa using hc)
        subst ht
        refine (push_full1 x y A B [] rfl (by simpa using hcap) hx w hr' hB).mono ?_
        rintro e w' ⟨A', c', rfl, h1, h2⟩
        exact ⟨A', c', by simp, by simpa using h1, h2⟩
end Go.Proofs.YtcikljcjhijjdaaGreat
