/- peers.Copied, walked. -/
import Derived.Test.YteojecbmmijccaaPeBs
import Derived.Lib.OwnKind
import Derived.Deep.DeepCutAuto
namespace Go.Proofs.Yteojecbmmijccaa
open Go.RowKit Go.Lib
set_option linter.unusedSimpArgs false
set_option linter.unusedVariables false

theorem peer_info : (Try.prog.info? 34).map (fun i => (i.zero, i.size, i.bytes)) = some (some (.agg #[.string ByteArray.empty, .int .i64 0, .int .i64 0, .int .i64 0, .int .i64 0, .slice none 0 0, .int .i64 0]), 7, 80) := by kernel_rfl
theorem rowsN_apart {w : World} {H H' n n' s s' : Nat} {e e' : TypeId} {v v' : Value} {xs ys : List Value} (h : w.ownsRow H e s v n xs) (h' : w.ownsRow H' e' s' v' n' ys) (hne : e ≠ e') (b : Nat) (hb : v.ownBlock = some b) : v'.ownBlock ≠ some b := by
  intro hb'
  obtain ⟨c, fz, h1⟩ := ownsRow_kind h b hb
  obtain ⟨c', fz', h2⟩ := ownsRow_kind h' b hb'
  rw [h1] at h2
  injection h2 with h2
  injection h2 with _ h3
  exact hne h3
theorem row_blk_ne {w : World} {H n s g : Nat} {e t : TypeId} {v : Value} {xs : List Value} {cs : Array Value} (h : w.ownsRow H e s v n xs) (hb : Blk w g t cs) (hne : e ≠ t) : v.ownBlock ≠ some g := by
  intro hv
  obtain ⟨c, fz, h1⟩ := ownsRow_kind h g hv
  have h2 : w.heap[g]? = some (.cells cs t (0, 0)) := hb
  rw [h1] at h2
  injection h2 with h2
  injection h2 with _ h3
  exact hne h3
/-- the windows' values are the call's own -/
def ValsOwn (H : Nat) (w : World) (l : List PeerT) : Prop := ∀ p ∈ l, w.ownsRow H 3 1 (psl p) (pvals p).length (cellsI (pvals p))
section
variable {H n : Nat} {w w' : World} {l : List PeerT}
theorem ValsOwn.nil : ValsOwn H w [] := fun p hp => by cases hp
theorem ValsOwn.alloc (h : ValsOwn H w l) (o : Obj) : ValsOwn H (w.alloc o) l := fun p hp => (h p hp).alloc o
theorem ValsOwn.below (h : ValsOwn H w l) (hb : Below w.heap.size w w') : ValsOwn H w' l := fun p hp => ownsRow_below (h p hp) hb
theorem ValsOwn.snoc {p : PeerT} (h : ValsOwn H w l) (hp : w.ownsRow H 3 1 (psl p) (pvals p).length (cellsI (pvals p))) : ValsOwn H w (l ++ [p]) := fun q hq => by
  rcases List.mem_append.1 hq with hq | hq
  · exact h q hq
  · obtain rfl := List.mem_singleton.1 hq
    exact hp
theorem ValsOwn.set_ (h : ValsOwn H w l) {g : Nat} {t : TypeId} {cs : Array Value} (hb : Blk w g t cs) (hne : 3 ≠ t) (i : Nat) (v : Value) : ValsOwn H (w.setCell ⟨g, i, none⟩ v) l := fun p hp =>
  ownsRow_setCell_other (h p hp) (a := ⟨g, i, none⟩) (row_blk_ne (h p hp) hb hne) v
theorem ValsOwn.kept {u : Value} {H' m : Nat} {xs : List Value} {s : Nat} {t : TypeId} (h : ValsOwn H w l) (hu : w.ownsRow H' t s u m xs) (ht : t ≠ 3) (hg : w.grownBy w' u.ownBlock) : ValsOwn H w' l := fun p hp => by
  refine (h p hp).kept hg ?_
  cases hq : (psl p).ownBlock with
  | none => exact .inl rfl
  | some b => exact .inr fun e => rowsN_apart hu (h p hp) ht b e.symm hq
end
theorem reads_peer (w : World) (e : TypeId) (p : PeerT) : Reads (w.alloc (.cells (pcells p).toArray e)) (w.heap.size + 1) 7 (some ⟨w.heap.size, 0, none⟩) 1 (cellsP [p]) :=
  ⟨rfl, fun _ => ⟨_, rfl, by simp, fun j u hj => by
    have hc := (Blk.new w e (pcells p).toArray).cell j
    have hadd : (⟨w.heap.size, 0, none⟩ : Addr).add j = ⟨w.heap.size, j, none⟩ := by unfold Addr.add; split <;> simp_all
    rw [hadd, hc, ← hj]
    simp [cellsP]⟩⟩
/-- a copy of peers: their data, in memory of the call's own -/
def CopyIs (l : List PeerT) (n : Nat) (w : World) (e : Ending) (w' : World) : Prop :=
  ∃ A c l', e = .returned (.slice A n c) ∧ l'.map Prod.fst = l.map Prod.fst ∧ w'.ownsRow w.heap.size 34 7 (.slice A n c) n (cellsP l') ∧ ValsOwn w.heap.size w' l' ∧ Below w.heap.size w w'

set_option maxHeartbeats 4000000 in
set_option maxRecDepth 100000 in
theorem copied_is (A : Option Addr) (c B n : Nat) (l : List PeerT) (hm : n ≤ 1000) (h64 : ∀ p ∈ l, (pvals p).length ≤ 64) (w : World) (hp : Peers w B A n l) (hB : B ≤ w.heap.size) :
    Calls Try.prog 15 #[.slice A n c] w (CopyIs l n w) := by
  obtain ⟨i0, hi, hz0, hz1, hz2⟩ := info_parts peer_info
  have HP := Lib.hid hp
  have HBB := Lib.hid hB
  have HN := Lib.hid hp.len
  have H64 := Lib.hid h64
  clear hp hB h64
  go_enter Try.func15, Try.ntmps15
  go_wp2_with fail
  go_loopw [3, 8] (fun v iv wr => ∃ (k : Nat) (l' : List PeerT), k ≤ n ∧ iv = .int .i64 (k : Int) ∧ l'.map Prod.fst = (l.take k).map Prod.fst ∧ wr.ownsRow w.heap.size 34 7 v k (cellsP l') ∧ ValsOwn w.heap.size wr l' ∧ Below w.heap.size w wr) (fun _ iv _ => n - (RowKit.intOf iv).toNat)
  case atStart => exact ⟨0, [], by omega, rfl, rfl, ⟨rfl, .inl ⟨rfl, rfl⟩⟩, ValsOwn.nil, Below.refl _ _⟩
  case round =>
    obtain ⟨k, l', hk, rfl, hmap, hown, hvo, hbl⟩ := hrel
    obtain ⟨wo, rfl⟩ : ∃ wo, wo = wr := ⟨_, rfl⟩
    obtain ⟨A1, c1, rfl⟩ := ownsRow_len hown
    have MP := Lib.hid hmap
    have OW := Lib.hid hown
    have VO := Lib.hid hvo
    have BL := Lib.hid hbl
    clear hmap hown hvo hbl
    by_cases hlt : k < n
    · have hkl : k < l.length := by rw [HN.out]; exact hlt
      have HPW := Lib.hid (HP.out.below BL.out HBB.out)
      obtain ⟨b, off, rfl, hb, hcs⟩ := HPW.out.addr (by omega)
      obtain ⟨c0, c1', c2, c3, c4, c5, c6⟩ := hcs k hkl
      have hok := HPW.out.ok _ (List.getElem_mem hkl)
      have h64k := H64.out _ (List.getElem_mem hkl)
      have htk : (l.take (k + 1)).map Prod.fst = (l.take k).map Prod.fst ++ [(l[k]'hkl).1] := by rw [List.take_succ_eq_append_getElem hkl, List.map_append]; rfl
      have hBo : B ≤ wo.heap.size := Nat.le_trans HBB.out BL.out.size
      generalize l[k]'hkl = p at *
      have TK := Lib.hid htk
      have E := Lib.hid ((Env.start wo).lay (pcells p).toArray 34)
      have HCL := Lib.hid (fun w hr hB => clone_any p.2.1 p.2.2 B (pvals p).length (pvals p) rfl (by omega) w hr hB)
      have OK := Lib.hid hok
      simp only [pcells] at E
      clear hcs htk hok
      go_wp2_with fail
      refine (HCL.out _ (OK.out.1.below E.out.bel hBo) (Nat.le_trans hBo E.out.bel.size)).mono ?_
      rintro e' w1 ⟨A4, c4', rfl, hown4, hb4⟩
      have E1 := Lib.hid (E.out.below hb4)
      have OW1 := Lib.hid (ownsRow_below (OW.out.alloc _) hb4)
      have VO1 := Lib.hid ((VO.out.alloc _).below hb4)
      have OV := Lib.hid (ownsRow_base hown4 (by have := BL.out.size; simp; omega : w.heap.size ≤ _))
      have BL1 := Lib.hid (BL.out.trans (E1.out.bel.mono BL.out.size))
      clear hown4 hb4
      have x0 := E1.out.hd.cell 0
      have x1 := E1.out.hd.cell 1
      have x2 := E1.out.hd.cell 2
      have x3 := E1.out.hd.cell 3
      have x4 := E1.out.hd.cell 4
      have x5 := E1.out.hd.cell 5
      have x6 := E1.out.hd.cell 6
      have f5 := E1.out.hd.frozen 5
      simp at x0 x1 x2 x3 x4 x5 x6
      go_upto_region 6 with fail
      have K2 := Lib.hid (show Blk (w1.setCell ⟨wo.heap.size, 5, none⟩ (.slice A4 (pvals p).length c4')) wo.heap.size 34 (pcells (p.1, A4, c4')).toArray by simpa [pcells] using E1.out.hd.set_ 5 (.slice A4 (pvals p).length c4'))
      have OW2 := Lib.hid (ownsRow_setCell_other OW1.out (a := ⟨wo.heap.size, 5, none⟩) (fun e => by have := (OW.out.lt _ e).2; simp at this) (.slice A4 (pvals p).length c4'))
      have VO2 := Lib.hid (VO1.out.set_ E1.out.hd (by decide) 5 (.slice A4 (pvals p).length c4'))
      have OV2 := Lib.hid (ownsRow_setCell_other OV.out (a := ⟨wo.heap.size, 5, none⟩) (row_blk_ne OV.out E1.out.hd (by decide)) (.slice A4 (pvals p).length c4'))
      have BL2 := Lib.hid (BL1.out.setCell (p := ⟨wo.heap.size, 5, none⟩) (by have := BL.out.size; exact this) (.slice A4 (pvals p).length c4'))
      clear x0 x1 x2 x3 x4 x5 x6 f5 E E1 OW1 VO1 OV BL1
      generalize hW2 : w1.setCell _ _ = w2 at *
      clear hW2
      have x0 := K2.out.cell 0
      have x1 := K2.out.cell 1
      have x2 := K2.out.cell 2
      have x3 := K2.out.cell 3
      have x4 := K2.out.cell 4
      have x5 := K2.out.cell 5
      have x6 := K2.out.cell 6
      simp [pcells] at x0 x1 x2 x3 x4 x5 x6
      go_wp2_with (at_builtin; refine wpList_append_any _ rfl _ _ 22 rfl w.heap.size 34 i0 _ 7 80 Try.underlying22 hi hz0 hz1 hz2 rfl (by decide) _ _ _ rfl (OW2.out.alloc _) _ _ 1 _ _ rfl (reads_peer w2 _ (p.1, A4, c4')) (oneCell_peers [(p.1, A4, c4')]) ?c1 ?c2 ?c3 ?_)
      case c1 => unfold maxLen; omega
      case c2 => omega
      case c3 => have := BL2.out.size; simp; omega
      intro v3 w3 ho3 hg3 hn3
      obtain ⟨A3, c3', rfl⟩ := ownsRow_len ho3
      have VO3 := Lib.hid (((VO2.out.snoc (p := (p.1, A4, c4')) OV2.out).alloc _).kept (OW2.out.alloc _) (by decide) hg3)
      have BL3 := Lib.hid ((BL2.out.alloc BL2.out.size _).grown hg3 (by have := BL2.out.size; simp; omega) (fun k hk => (OW2.out.lt k hk).1))
      have O3 := Lib.hid (show w3.ownsRow w.heap.size 34 7 (.slice A3 (k + 1) c3') (k + 1) (cellsP (l' ++ [(p.1, A4, c4')])) by rw [cellsP_app]; exact ho3)
      have M3 := Lib.hid (show (l' ++ [(p.1, A4, c4')]).map Prod.fst = (l.take (k + 1)).map Prod.fst by rw [TK.out, List.map_append, MP.out]; rfl)
      clear ho3 hg3 hn3 x0 x1 x2 x3 x4 x5 x6 OW2 VO2 OV2 BL2 K2
      go_wp2
      exact ⟨⟨k + 1, l' ++ [(p.1, A4, c4')], by omega, by simp, M3.out, O3.out, VO3.out, BL3.out⟩, by simp [RowKit.intOf]; omega⟩
    · obtain rfl : k = n := by omega
      have hmp : l'.map Prod.fst = l.map Prod.fst := by rw [MP.out, List.take_of_length_le (by rw [HN.out]; exact Nat.le_refl _)]
      have MM := Lib.hid hmp
      clear hmp
      go_wp2
      go_ret
      exact ⟨A1, c1, l', rfl, MM.out, OW.out, VO.out, BL.out⟩
end Go.Proofs.Yteojecbmmijccaa
