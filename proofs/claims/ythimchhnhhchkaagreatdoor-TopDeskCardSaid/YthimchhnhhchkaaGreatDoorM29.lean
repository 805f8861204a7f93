/- peers.Copied, walked. (with what it needs) -/
import Derived.Test.YthimchhnhhchkaaGreatDoorM28
import Derived.Lib.OwnKind
import Derived.Deep.DeepCutAuto
import Derived.Test.YthimchhnhhchkaaGreatDoorM08
import Derived.Test.YthimchhnhhchkaaGreatDoorM05
namespace Go.Proofs.YthimchhnhhchkaaGreatDoor
open Go.RowKit Go.Lib
set_option linter.unusedSimpArgs false
set_option linter.unusedVariables false

theorem peer_info : (Tryz.prog.info? 183).map (fun i => (i.zero, i.size, i.bytes)) = some (some (.agg #[.string ByteArray.empty, .int .i64 0, .int .i64 0, .int .i64 0, .int .i64 0, .slice none 0 0, .int .i64 0]), 7, 80) := by kernel_rfl
theorem rowsN_apart {w : World} {H H' n n' s s' : Nat} {e e' : TypeId} {v v' : Value} {xs ys : List Value} (h : w.ownsRow H e s v n xs) (h' : w.ownsRow H' e' s' v' n' ys) (hne : e ≠ e') (b : Nat) (hb : v.ownBlock = some b) : v'.ownBlock ≠ some b := by
  intro hb'
  obtain ⟨c, fz, h1⟩ := ownsRow_kind h b hb
  obtain ⟨c', fz', h2⟩ := ownsRow_kind h' b hb'
  rw [h1] at h2
  injection h2 with h2
  injection h2 with _ h3
  exact hne h3
theorem row_blk_ne {w : World} {H n s g : Nat} {e t : TypeId} {v : Value} {xs : List Value} {cs : Array Value} (h : w.ownsRow H e s v n xs) (hb : Blk w g t cs) (hne : e ≠ t) : v.ownBlock ≠ some g := by
  intro hv
  obtain ⟨c, fz, h1⟩ := ownsRow_kind h g hv
  have h2 : w.heap[g]? = some (.cells cs t (0, 0)) := hb
  rw [h1] at h2
  injection h2 with h2
  injection h2 with _ h3
  exact hne h3
/-- the windows' values are the call's own -/
def ValsOwn (H : Nat) (w : World) (l : List PeerT) : Prop := ∀ p ∈ l, w.ownsRow H 3 1 (psl p) (pvals p).length (cellsI (pvals p))
section
variable {H n : Nat} {w w' : World} {l : List PeerT}
theorem ValsOwn.nil : ValsOwn H w [] := fun p hp => by cases hp
theorem ValsOwn.alloc (h : ValsOwn H w l) (o : Obj) : ValsOwn H (w.alloc o) l := fun p hp => (h p hp).alloc o
theorem ValsOwn.below (h : ValsOwn H w l) (hb : Below w.heap.size w w') : ValsOwn H w' l := fun p hp => ownsRow_below (h p hp) hb
theorem ValsOwn.snoc {p : PeerT} (h : ValsOwn H w l) (hp : w.ownsRow H 3 1 (psl p) (pvals p).length (cellsI (pvals p))) : ValsOwn H w (l ++ [p]) := fun q hq => by
  rcases List.mem_append.1 hq with hq | hq
  · exact h q hq
  · obtain rfl := List.mem_singleton.1 hq
    exact hp
theorem ValsOwn.set_ (h : ValsOwn H w l) {g : Nat} {t : TypeId} {cs : Array Value} (hb : Blk w g t cs) (hne : 3 ≠ t) (i : Nat) (v : Value) : ValsOwn H (w.setCell ⟨g, i, none⟩ v) l := fun p hp =>
  ownsRow_setCell_other (h p hp) (a := ⟨g, i, none⟩) (row_blk_ne (h p hp) hb hne) v
theorem ValsOwn.kept {u : Value} {H' m : Nat} {xs : List Value} {s : Nat} {t : TypeId} (h : ValsOwn H w l) (hu : w.ownsRow H' t s u m xs) (ht : t ≠ 3) (hg : w.grownBy w' u.ownBlock) : ValsOwn H w' l := fun p hp => by
  refine (h p hp).kept hg ?_
  cases hq : (psl p).ownBlock with
  | none => exact .inl rfl
  | some b => exact .inr fun e => rowsN_apart hu (h p hp) ht b e.symm hq
end
theorem reads_peer (w : World) (e : TypeId) (p : PeerT) : Reads (w.alloc (.cells (pcells p).toArray e)) (w.heap.size + 1) 7 (some ⟨w.heap.size, 0, none⟩) 1 (cellsP [p]) :=
  ⟨rfl, fun _ => ⟨_, rfl, by simp, fun j u hj => by
    have hc := (Blk.new w e (pcells p).toArray).cell j
    have hadd : (⟨w.heap.size, 0, none⟩ : Addr).add j = ⟨w.heap.size, j, none⟩ := by unfold Addr.add; split <;> simp_all
    rw [hadd, hc, ← hj]
    simp [cellsP]⟩⟩
/-- a copy of peers: their data, in memory of the call's own -/
def CopyIs (l : List PeerT) (n : Nat) (w : World) (e : Ending) (w' : World) : Prop :=
  ∃ A c l', e = .returned (.slice A n c) ∧ l'.map Prod.fst = l.map Prod.fst ∧ w'.ownsRow w.heap.size 183 7 (.slice A n c) n (cellsP l') ∧ ValsOwn w.heap.size w' l' ∧ Below w.heap.size w w'

set_option maxHeartbeats 4000000 in
set_option maxRecDepth 100000 in
theorem copied_is (A : Option Addr) (c B n : Nat) (l : List PeerT) (hm : n ≤ 1000) (h64 : ∀ p ∈ l, (pvals p).length ≤ 64) (w : World) (hp : Peers w B A n l) (hB : B ≤ w.heap.size) :
    Calls Tryz.prog 164 #[.slice A n c] w (CopyIs l n w) := by
  obtain ⟨i0, hi, hz0, hz1, hz2⟩ := info_parts peer_info
  have HP := Lib.hid hp
  have HBB := Lib.hid hB
  have HN := Lib.hid hp.len
  have H64 := Lib.hid h64
  clear hp hB h64
  go_enter Tryz.func164, Tryz.ntmps164
  go_wp2_with fail
  go_loopw [3, 8] (fun v iv wr => ∃ (k : Nat) (l' : List PeerT), k ≤ n ∧ iv = .int .i64 (k : Int) ∧ l'.map Prod.fst = (l.take k).map Prod.fst ∧ wr.ownsRow w.heap.size 183 7 v k (cellsP l') ∧ ValsOwn w.heap.size wr l' ∧ Below w.heap.size w wr) (fun _ iv _ => n - (RowKit.intOf iv).toNat)
  case atStart => exact ⟨0, [], by omega, rfl, rfl, ⟨rfl, .inl ⟨rfl, rfl⟩⟩, ValsOwn.nil, Below.refl _ _⟩
  case round =>
    obtain ⟨k, l', hk, rfl, hmap, hown, hvo, hbl⟩ := hrel
    obtain ⟨wo, rfl⟩ : ∃ wo, wo = wr := ⟨_, rfl⟩
    obtain ⟨A1, c1, rfl⟩ := ownsRow_len hown
    have MP := Lib.hid hmap
    have OW := Lib.hid hown
    have VO := Lib.hid hvo
    have BL := Lib.hid hbl
    clear hmap hown hvo hbl
    by_cases hlt : k < n
    · have hkl : k < l.length := by rw [HN.out]; exact hlt
      have HPW := Lib.hid (HP.out.below BL.out HBB.out)
      obtain ⟨b, off, rfl, hb, hcs⟩ := HPW.out.addr (by omega)
      obtain ⟨c0, c1', c2, c3, c4, c5, c6⟩ := hcs k hkl
      have hok := HPW.out.ok _ (List.getElem_mem hkl)
      have h64k := H64.out _ (List.getElem_mem hkl)
      have htk : (l.take (k + 1)).map Prod.fst = (l.take k).map Prod.fst ++ [(l[k]'hkl).1] := by rw [List.take_succ_eq_append_getElem hkl, List.map_append]; rfl
      have hBo : B ≤ wo.heap.size := Nat.le_trans HBB.out BL.out.size
      generalize l[k]'hkl = p at *
      have TK := Lib.hid htk
      have E := Lib.hid ((Env.start wo).lay (pcells p).toArray 183)
      have HCL := Lib.hid (fun w hr hB => clone_any p.2.1 p.2.2 B (pvals p).length (pvals p) rfl (by omega) w hr hB)
      have OK := Lib.hid hok
      simp only [pcells] at E
      clear hcs htk hok
      go_wp2_with fail
      refine (HCL.out _ (OK.out.1.below E.out.bel hBo) (Nat.le_trans hBo E.out.bel.size)).mono ?_
      rintro e' w1 ⟨A4, c4', rfl, hown4, hb4⟩
      have E1 := Lib.hid (E.out.below hb4)
      have OW1 := Lib.hid (ownsRow_below (OW.out.alloc _) hb4)
      have VO1 := Lib.hid ((VO.out.alloc _).below hb4)
      have OV := Lib.hid (ownsRow_base hown4 (by have := BL.out.size; simp; omega : w.heap.size ≤ _))
      have BL1 := Lib.hid (BL.out.trans (E1.out.bel.mono BL.out.size))
      clear hown4 hb4
      have x0 := E1.out.hd.cell 0
      have x1 := E1.out.hd.cell 1
      have x2 := E1.out.hd.cell 2
      have x3 := E1.out.hd.cell 3
      have x4 := E1.out.hd.cell 4
      have x5 := E1.out.hd.cell 5
      have x6 := E1.out.hd.cell 6
      have f5 := E1.out.hd.frozen 5
      simp at x0 x1 x2 x3 x4 x5 x6
      go_upto_region 6 with fail
      have K2 := Lib.hid (show Blk (w1.setCell ⟨wo.heap.size, 5, none⟩ (.slice A4 (pvals p).length c4')) wo.heap.size 183 (pcells (p.1, A4, c4')).toArray by simpa [pcells] using E1.out.hd.set_ 5 (.slice A4 (pvals p).length c4'))
      have OW2 := Lib.hid (ownsRow_setCell_other OW1.out (a := ⟨wo.heap.size, 5, none⟩) (fun e => by have := (OW.out.lt _ e).2; simp at this) (.slice A4 (pvals p).length c4'))
      have VO2 := Lib.hid (VO1.out.set_ E1.out.hd (by decide) 5 (.slice A4 (pvals p).length c4'))
      have OV2 := Lib.hid (ownsRow_setCell_other OV.out (a := ⟨wo.heap.size, 5, none⟩) (row_blk_ne OV.out E1.out.hd (by decide)) (.slice A4 (pvals p).length c4'))
      have BL2 := Lib.hid (BL1.out.setCell (p := ⟨wo.heap.size, 5, none⟩) (by have := BL.out.size; exact this) (.slice A4 (pvals p).length c4'))
      clear x0 x1 x2 x3 x4 x5 x6 f5 E E1 OW1 VO1 OV BL1
      generalize hW2 : w1.setCell _ _ = w2 at *
      clear hW2
      have x0 := K2.out.cell 0
      have x1 := K2.out.cell 1
      have x2 := K2.out.cell 2
      have x3 := K2.out.cell 3
      have x4 := K2.out.cell 4
      have x5 := K2.out.cell 5
      have x6 := K2.out.cell 6
      simp [pcells] at x0 x1 x2 x3 x4 x5 x6
      go_wp2_with (at_builtin; refine wpList_append_any _ rfl _ _ 164 rfl w.heap.size 183 i0 _ 7 80 Tryz.underlying164 hi hz0 hz1 hz2 rfl (by decide) _ _ _ rfl (OW2.out.alloc _) _ _ 1 _ _ rfl (reads_peer w2 _ (p.1, A4, c4')) (oneCell_peers [(p.1, A4, c4')]) ?c1 ?c2 ?c3 ?_)
      case c1 => unfold maxLen; omega
      case c2 => omega
      case c3 => have := BL2.out.size; simp; omega
      intro v3 w3 ho3 hg3 hn3
      obtain ⟨A3, c3', rfl⟩ := ownsRow_len ho3
      have VO3 := Lib.hid (((VO2.out.snoc (p := (p.1, A4, c4')) OV2.out).alloc _).kept (OW2.out.alloc _) (by decide) hg3)
      have BL3 := Lib.hid ((BL2.out.alloc BL2.out.size _).grown hg3 (by have := BL2.out.size; simp; omega) (fun k hk => (OW2.out.lt k hk).1))
      have O3 := Lib.hid (show w3.ownsRow w.heap.size 183 7 (.slice A3 (k + 1) c3') (k + 1) (cellsP (l' ++ [(p.1, A4, c4')])) by rw [cellsP_app]; exact ho3)
      have M3 := Lib.hid (show (l' ++ [(p.1, A4, c4')]).map Prod.fst = (l.take (k + 1)).map Prod.fst by rw [TK.out, List.map_append, MP.out]; rfl)
      clear ho3 hg3 hn3 x0 x1 x2 x3 x4 x5 x6 OW2 VO2 OV2 BL2 K2
      go_wp2
      exact ⟨⟨k + 1, l' ++ [(p.1, A4, c4')], by omega, by simp, M3.out, O3.out, VO3.out, BL3.out⟩, by simp [RowKit.intOf]; omega⟩
    · obtain rfl : k = n := by omega
      have hmp : l'.map Prod.fst = l.map Prod.fst := by rw [MP.out, List.take_of_length_le (by rw [HN.out]; exact Nat.le_refl _)]
      have MM := Lib.hid hmp
      clear hmp
      go_wp2
      go_ret
      exact ⟨A1, c1, l', rfl, MM.out, OW.out, VO.out, BL.out⟩
end Go.Proofs.YthimchhnhhchkaaGreatDoor

namespace Go.Proofs.YthimchhnhhchkaaGreatDoor
open Go.RowKit Go.Lib
set_option linter.unusedSimpArgs false
set_option linter.unusedVariables false











































































































end Go.Proofs.YthimchhnhhchkaaGreatDoor

namespace Go.Proofs.YthimchhnhhchkaaGreatDoor
open Go.RowKit Go.Lib
set_option linter.unusedSimpArgs false
set_option linter.unusedVariables false

theorem cellsP_set : ∀ (l : List PeerT) (k j : Nat) (v : Value) (p' : PeerT) (h : k < l.length), j < 7 → (pcells (l[k]'h)).set j v = pcells p' → (cellsP l).set (k * 7 + j) v = cellsP (l.set k p')
  | [], k, j, v, p', h, _, _ => by simp at h
  | p :: l, 0, j, v, p', _, hj, hp => by
    simp only [cellsP, List.set_cons_zero]
    rw [Nat.zero_mul, Nat.zero_add, List.set_append_left _ _ (by rw [pcells_len]; exact hj)]
    rw [← hp]
    rfl
  | p :: l, k + 1, j, v, p', h, hj, hp => by
    simp only [cellsP, List.set_cons_succ]
    rw [List.set_append_right _ _ (by rw [pcells_len]; omega), pcells_len, show (k + 1) * 7 + j - 7 = k * 7 + j by omega, cellsP_set l k j v p' (by simpa using h) hj (by simpa using hp)]
def RowP (w : World) (g cap n : Nat) (l : List PeerT) : Prop := l.length = n ∧ n ≤ cap ∧ cap ≤ maxLen ∧ ∃ cur, Blk w g 183 cur ∧ cur.size = cap * 7 ∧ cur.toList.take (n * 7) = cellsP l
section
variable {w w' : World} {g cap n H : Nat} {l : List PeerT}
theorem RowP.of_own {A : Option Addr} {c : Nat} (h : w.ownsRow H 183 7 (.slice A n c) n (cellsP l)) (hn : 0 < n) (hl : l.length = n) : ∃ g, A = some ⟨g, 0, none⟩ ∧ H ≤ g ∧ g < w.heap.size ∧ RowP w g c n l := by
  rcases h.2 with ⟨_, h0⟩ | ⟨g, cap, cur, hv, hbg, hg, hnc, hmc, hsz, hx⟩
  · omega
  · injection hv with h1 h2 h3
    subst h1 h3
    exact ⟨g, rfl, hbg, (Array.getElem?_eq_some_iff.1 hg).1, hl, hnc, hmc, cur, hg, hsz, hx⟩
theorem RowP.blk (h : RowP w g cap n l) : ∃ cur, Blk w g 183 cur := by
  obtain ⟨h0, h1, h2, cur, h3, h4, h5⟩ := h
  exact ⟨cur, h3⟩
theorem RowP.lt (h : RowP w g cap n l) : g < w.heap.size := by
  obtain ⟨cur, hc⟩ := h.blk
  exact hc.lt
theorem RowP.frozen (h : RowP w g cap n l) (j : Nat) : w.frozen? ⟨g, j, none⟩ = false := by
  obtain ⟨cur, hc⟩ := h.blk
  exact hc.frozen j
theorem RowP.cells (h : RowP w g cap n l) (k : Nat) (hk : k < l.length) : PeerC w g (k * 7) (l[k]'hk) := by
  obtain ⟨h0, h1, h2, cur, h3, h4, h5⟩ := h
  have at' : ∀ j v, j < 7 → (pcells (l[k]'hk))[j]? = some v → w.cell? ⟨g, k * 7 + j, none⟩ = some v := fun j v hj hv => by
    rw [h3.cell, ← hv, ← cellsP_at l k j hk hj, ← h5, List.getElem?_take, if_pos (by omega)]
    simp
  exact ⟨at' 0 _ (by decide) rfl, at' 1 _ (by decide) rfl, at' 2 _ (by decide) rfl, at' 3 _ (by decide) rfl, at' 4 _ (by decide) rfl, at' 5 _ (by decide) rfl, at' 6 _ (by decide) rfl⟩
theorem RowP.set_ (h : RowP w g cap n l) (k j : Nat) (v : Value) (p' : PeerT) (hk : k < l.length) (hj : j < 7) (hp : (pcells (l[k]'hk)).set j v = pcells p') : RowP (w.setCell ⟨g, k * 7 + j, none⟩ v) g cap n (l.set k p') := by
  obtain ⟨h0, h1, h2, cur, h3, h4, h5⟩ := h
  exact ⟨by simpa using h0, h1, h2, _, h3.set_ (k * 7 + j) v, by simpa using h4, by rw [← cellsP_set l k j v p' hk hj hp, ← h5, Array.toList_setIfInBounds, List.take_set]⟩
theorem RowP.below (h : RowP w g cap n l) {B : Nat} (hb : Below B w w') (hg : g < B) : RowP w' g cap n l := by
  obtain ⟨h0, h1, h2, cur, h3, h4, h5⟩ := h
  exact ⟨h0, h1, h2, cur, h3.below hb hg, h4, h5⟩
theorem RowP.reads (h : RowP w g cap n l) : Reads w w.heap.size 7 (some ⟨g, 0, none⟩) n (cellsP l) := by
  have hlt := h.lt
  obtain ⟨h0, h1, h2, cur, h3, h4, h5⟩ := h
  refine ⟨by rw [cellsP_len, h0], fun hn => ⟨_, rfl, hlt, fun j u hu => ?_⟩⟩
  have hadd : (⟨g, 0, none⟩ : Addr).add j = ⟨g, j, none⟩ := by unfold Addr.add; split <;> simp_all
  have hj : j < n * 7 := by
    have := (List.getElem?_eq_some_iff.1 hu).1
    rw [cellsP_len, h0] at this
    exact this
  rw [hadd, h3.cell, ← hu, ← h5, List.getElem?_take, if_pos hj]
  simp
theorem ValsOwn.ok (h : ValsOwn H w l) (hid : ∀ p ∈ l, (pid p).size ≤ maxLen) : ∀ p ∈ l, PeerOk w w.heap.size p := fun p hp => by
  have hr := h p hp
  have hc := ownsRow_cap hr
  exact ⟨Reads.of_own hr, hc.1, hc.2, hid p hp⟩
theorem ValsOwn.upd (h : ValsOwn H w l) {k : Nat} {p' : PeerT} (hp : w.ownsRow H 3 1 (psl p') (pvals p').length (cellsI (pvals p'))) : ValsOwn H w (l.set k p') := fun q hq => by
  rcases List.mem_or_eq_of_mem_set hq with hq | rfl
  · exact h q hq
  · exact hp
end
theorem Below.al5 {w W : World} {o : Obj} (h : Below w.heap.size w W) : Below w.heap.size w (W.alloc o) := h.alloc h.size _
theorem Below.thru5 {w X W : World} (h : Below w.heap.size w X) (h2 : Below X.heap.size X W) : Below w.heap.size w W := h.trans (h2.mono h.size)
/-- the blocks in which peers lie -/
def PBlk (A : Option Addr) (l : List PeerT) (P : Nat → Prop) : Prop := (0 < l.length → ∀ a, A = some a → P a.block) ∧ ∀ p ∈ l, 0 < (pvals p).length → ∀ a, p.2.1 = some a → P a.block
/-- peers that are new, or lie where others lay -/
def KeepsP (w : World) (A0 : Option Addr) (l0 : List PeerT) (A : Option Addr) (l : List PeerT) : Prop := ∀ P : Nat → Prop, (∀ k, w.heap.size ≤ k → P k) → PBlk A0 l0 P → PBlk A l P
theorem keeps_own {w w' : World} {g : Nat} {l l0 : List PeerT} {A0 : Option Addr} (hg : w.heap.size ≤ g) (hv : ValsOwn w.heap.size w' l) : KeepsP w A0 l0 (some ⟨g, 0, none⟩) l := fun P hP _ =>
  ⟨fun _ a ha => by cases ha; exact hP _ hg, fun p hp _ a ha => hP _ ((hv p hp).lt a.block (by simp only [psl, ha, Value.ownBlock])).1⟩
theorem keeps_set {w : World} {g k : Nat} {l : List PeerT} {A0 : Option Addr} {p' : PeerT} (hg : w.heap.size ≤ g) (hp : 0 < (pvals p').length → ∀ a, p'.2.1 = some a → w.heap.size ≤ a.block ∨ ∃ q ∈ l, 0 < (pvals q).length ∧ q.2.1 = some a) : KeepsP w A0 l (some ⟨g, 0, none⟩) (l.set k p') := fun P hP h0 =>
  ⟨fun _ a ha => by cases ha; exact hP _ hg, fun p hpm hl a ha => by
    rcases List.mem_or_eq_of_mem_set hpm with h | rfl
    · exact h0.2 p h hl a ha
    · rcases hp hl a ha with h | ⟨q, hq, hql, hqa⟩
      · exact hP _ h
      · exact h0.2 q hq hql a hqa⟩
/-- a value pushed into a window -/
def pushV (cap : Int) (l : List Int) (x : Int) : List Int := if (l.length : Int) < cap then l ++ [x] else l.tail ++ [x]
def PushedIs (cap : Int) (l : List Int) (w : World) (e : Ending) (w' : World) : Prop :=
  ∃ A c, e = .returned (.tuple #[.agg #[.int .i64 cap, .slice A l.length c], .int .i64 0]) ∧ w'.ownsRow w.heap.size 3 1 (.slice A l.length c) l.length (cellsI l) ∧ Below w.heap.size w w'
theorem push_any (cap x : Int) (A : Option Addr) (c B : Nat) (l : List Int) (hc : l.length ≤ c) (hm : c ≤ maxLen) (hcap : winE cap l = 0) (hx : wi x 0 16777216 = true) (w : World) (hr : Reads w B 1 A l.length (cellsI l)) (hB : B ≤ w.heap.size) :
    Calls Tryz.prog 171 #[.agg #[.int .i64 cap, .slice A l.length c], .int .i64 x] w (PushedIs cap (pushV cap l x) w) := by
  obtain ⟨c0, c1, c2, c3⟩ := winE_zero hcap
  unfold pushV
  by_cases hlt : (l.length : Int) < cap
  · rw [if_pos hlt]
    refine (push_tail cap x A c B l.length l rfl hc hm hcap hlt hx w hr hB).mono ?_
    rintro e w' ⟨A', c', rfl, h1, h2⟩
    exact ⟨A', c', by simp, by simpa using h1, h2⟩
  · rw [if_neg hlt]
    cases l with
    | nil => simp at hlt; omega
    | cons y t =>
      have hcp : cap = (t.length : Int) + 1 := by simp at hlt c2; omega
      subst hcp
      have hr' : Reads w B 1 A (t.length + 1) (cellsI (y :: t)) := hr
      obtain ⟨d, rfl⟩ : ∃ d, c = d + 1 := ⟨c - 1, by simp at hc; omega⟩
      by_cases hd : 1 ≤ d
      · refine (push_full x y A B t.length d t rfl hd (by simpa using hc) hm hcap hx w hr' hB).mono ?_
        rintro e w' ⟨A', c', rfl, h1, h2⟩
        exact ⟨A', c', by simp, by simpa using h1, h2⟩
      · have hd0 : d = 0 := by omega
        subst hd0
        have ht : t = [] := List.length_eq_zero_iff.1 (by simpa using hc)
        subst ht
        refine (push_full1 x y A B [] rfl (by simpa using hcap) hx w hr' hB).mono ?_
        rintro e w' ⟨A', c', rfl, h1, h2⟩
        exact ⟨A', c', by simp, by simpa using h1, h2⟩
end Go.Proofs.YthimchhnhhchkaaGreatDoor

namespace Go.Proofs.YthimchhnhhchkaaGreatDoor
open Go.RowKit Go.Lib
set_option linter.unusedSimpArgs false
set_option linter.unusedVariables false

/-- but for the blocks X the world is as it was -/
structure Kept (X : Nat → Prop) (w w' : World) : Prop where
  os : w'.os = w.os
  tape : w'.tape = w.tape
  output : w'.output = w.output
  size : w.heap.size ≤ w'.heap.size
  block : ∀ k, k < w.heap.size → ¬ X k → w'.heap[k]? = w.heap[k]?
section
variable {X Y : Nat → Prop} {w w1 w2 : World}
theorem Kept.refl (X : Nat → Prop) (w : World) : Kept X w w := ⟨rfl, rfl, rfl, Nat.le_refl _, fun _ _ _ => rfl⟩
theorem Kept.trans (h : Kept X w w1) (k : Kept X w1 w2) : Kept X w w2 :=
  ⟨k.os.trans h.os, k.tape.trans h.tape, k.output.trans h.output, Nat.le_trans h.size k.size, fun i hi hx => (k.block i (Nat.lt_of_lt_of_le hi h.size) hx).trans (h.block i hi hx)⟩
/-- what the second changes is the first's, or new -/
theorem Kept.then (h : Kept X w w1) (k : Kept Y w1 w2) (hy : ∀ i, Y i → X i ∨ w.heap.size ≤ i) : Kept X w w2 :=
  ⟨k.os.trans h.os, k.tape.trans h.tape, k.output.trans h.output, Nat.le_trans h.size k.size, fun i hi hx => (k.block i (Nat.lt_of_lt_of_le hi h.size) (fun hyi => (hy i hyi).elim hx (fun hge => by omega))).trans (h.block i hi hx)⟩
theorem Kept.mono (h : Kept X w w1) (hx : ∀ i, X i → Y i ∨ w.heap.size ≤ i) : Kept Y w w1 :=
  ⟨h.os, h.tape, h.output, h.size, fun i hi hy => h.block i hi (fun hxi => (hx i hxi).elim hy (fun hge => by omega))⟩
theorem Kept.of_below (h : Below w.heap.size w w1) : Kept X w w1 := ⟨h.os, h.tape, h.output, h.size, fun i hi _ => h.block i hi⟩
theorem Kept.step (h : Kept X w w1) (k : Below w1.heap.size w1 w2) : Kept X w w2 := h.trans (.of_below k)
theorem Kept.drew (h : Kept X w w1) : Kept X w w1.drew := ⟨h.os, h.tape, h.output, h.size, h.block⟩
theorem Kept.alloc (h : Kept X w w1) (o : Obj) : Kept X w (w1.alloc o) := h.step ((Below.refl _ _).alloc (Nat.le_refl _) o)
theorem Kept.setCell (h : Kept X w w1) {a : Addr} (ha : X a.block ∨ w.heap.size ≤ a.block) (u : Value) : Kept X w (w1.setCell a u) :=
  ⟨h.os, h.tape, h.output, Nat.le_trans h.size (by simp [World.setCell]), fun i hi hx => (Below.heap_setCell w1 a u i (fun e => by rcases ha with ha | ha; exact hx (e ▸ ha); omega)).trans (h.block i hi hx)⟩
theorem Kept.grown {r : Option Nat} (h : Kept X w w1) (hg : w1.grownBy w2 r) (hr : ∀ k, r = some k → X k ∨ w.heap.size ≤ k) : Kept X w w2 :=
  ⟨hg.os.trans h.os, hg.tape.trans h.tape, hg.output.trans h.output, Nat.le_trans h.size hg.size, fun i hi hx => (hg.block i (Nat.lt_of_lt_of_le hi h.size) (fun e => (hr i e.symm).elim hx (fun hge => by omega))).trans (h.block i hi hx)⟩
theorem Kept.blk {g : Nat} {t : TypeId} {cs : Array Value} (h : Kept X w w1) (hb : Blk w g t cs) (hx : ¬ X g) : Blk w1 g t cs := (h.block g hb.lt hx).trans hb
theorem Kept.below {B : Nat} (h : Kept X w w1) (hx : ∀ k, X k → B ≤ k) (hB : B ≤ w.heap.size) : Below B w w1 :=
  ⟨h.os, h.tape, h.output, h.size, fun k hk => h.block k (by omega) (fun hxk => by have := hx k hxk; omega)⟩
theorem Kept.cell {a : Addr} {u : Value} (h : Kept X w w1) (hc : w.cell? a = some u) (hx : ¬ X a.block) : w1.cell? a = some u := by
  have hb := World.block_lt_of_cell? w a hc
  rw [World.cell?_of_block (w := w) (h.block a.block hb hx)]
  exact hc
theorem Kept.reads {B size n : Nat} {A : Option Addr} {xs : List Value} (h : Kept X w w1) (hr : Reads w B size A n xs) (hx : 0 < n → ∀ a, A = some a → ¬ X a.block) : Reads w1 B size A n xs :=
  ⟨hr.1, fun hn => by
    obtain ⟨ad, e, hb, hc⟩ := hr.2 hn
    exact ⟨ad, e, hb, fun j u hu => h.cell (hc j u hu) (by rw [block_of_add]; exact hx hn ad e)⟩⟩
theorem Kept.own {base : Nat} {e : TypeId} {size n : Nat} {v : Value} {xs : List Value} (h : Kept X w w1) (ho : w.ownsRow base e size v n xs) (hx : ∀ k, v.ownBlock = some k → ¬ X k) : w1.ownsRow base e size v n xs := by
  refine ⟨ho.1, ?_⟩
  rcases ho.2 with hn | ⟨g, cap, cur, rfl, hb, hg, rest⟩
  · exact .inl hn
  · exact .inr ⟨g, cap, cur, rfl, hb, (h.block g (Array.getElem?_eq_some_iff.1 hg).1 (hx g rfl)).trans hg, rest⟩
theorem Kept.peers {A : Option Addr} {n B : Nat} {l : List PeerT} (h : Kept X w w1) (hp : Peers w B A n l) (hx : PBlk A l (fun k => ¬ X k)) : Peers w1 B A n l :=
  ⟨hp.1, h.reads hp.2.1 (fun hn => hx.1 (by rw [hp.1]; exact hn)), fun p hm => by
    obtain ⟨h1, h2⟩ := hp.2.2 p hm
    exact ⟨h.reads h1 (hx.2 p hm), h2⟩⟩
end
theorem PBlk.mono {A : Option Addr} {l : List PeerT} {P Q : Nat → Prop} (h : PBlk A l P) (hpq : ∀ k, P k → Q k) : PBlk A l Q :=
  ⟨fun hl a ha => hpq _ (h.1 hl a ha), fun p hp hl a ha => hpq _ (h.2 p hp hl a ha)⟩
theorem PBlk.and {A : Option Addr} {l : List PeerT} {P Q : Nat → Prop} (h : PBlk A l P) (h' : PBlk A l Q) : PBlk A l (fun k => P k ∧ Q k) :=
  ⟨fun hl a ha => ⟨h.1 hl a ha, h'.1 hl a ha⟩, fun p hp hl a ha => ⟨h.2 p hp hl a ha, h'.2 p hp hl a ha⟩⟩
theorem Peers.blk {w : World} {A : Option Addr} {n B : Nat} {l : List PeerT} (hp : Peers w B A n l) : PBlk A l (fun k => k < B) :=
  ⟨fun hl a ha => by
    obtain ⟨ad, e, hb, _⟩ := hp.2.1.2 (by rw [← hp.1]; exact hl)
    rw [ha] at e
    injection e with e
    rw [e]
    exact hb, fun p hm hl a ha => by
    obtain ⟨ad, e, hb, _⟩ := (hp.2.2 p hm).1.2 hl
    rw [ha] at e
    injection e with e
    rw [e]
    exact hb⟩

/-! ### rows of triples: a name, a number, a mark -/
abbrev TriD := ByteArray × Int × Bool
def tcells (s : TriD) : List Value := [.string s.1, .int .i64 s.2.1, .bool s.2.2]
def cells3 : List TriD → List Value
  | [] => []
  | p :: l => tcells p ++ cells3 l
theorem tcells_len (p : TriD) : (tcells p).length = 3 := rfl
theorem cells3_len : ∀ l : List TriD, (cells3 l).length = l.length * 3
  | [] => rfl
  | p :: l => by simp only [cells3, List.length_append, tcells_len, List.length_cons, cells3_len l]; omega
theorem cells3_app (l m : List TriD) : cells3 (l ++ m) = cells3 l ++ cells3 m := by
  induction l with
  | nil => rfl
  | cons x l ih => simp [cells3, ih]
theorem cells3_at : ∀ (l : List TriD) (k j : Nat) (h : k < l.length), j < 3 → (cells3 l)[k * 3 + j]? = (tcells (l[k]'h))[j]?
  | [], k, j, h, _ => by simp at h
  | p :: l, 0, j, _, hj => by
    rw [Nat.zero_mul, Nat.zero_add]
    simp only [cells3]
    rw [List.getElem?_append_left (by rw [tcells_len]; exact hj)]
    rfl
  | p :: l, k + 1, j, h, hj => by
    simp only [cells3]
    rw [List.getElem?_append_right (by rw [tcells_len]; omega), tcells_len, show (k + 1) * 3 + j - 3 = k * 3 + j by omega, cells3_at l k j (by simpa using h) hj]
    rfl
theorem oneCell_t (p : TriD) : ∀ u ∈ tcells p, u.oneCell' = true := by
  intro u hu
  simp only [tcells, List.mem_cons, List.not_mem_nil, or_false] at hu
  rcases hu with rfl | rfl | rfl <;> rfl
theorem oneCell_3 (l : List TriD) : ∀ u ∈ cells3 l, u.oneCell' = true := by
  induction l with
  | nil => intro u hu; cases hu
  | cons p l ih =>
    intro u hu
    rcases List.mem_append.1 hu with hu | hu
    · exact oneCell_t p u hu
    · exact ih u hu
theorem cells3_take : ∀ (l : List TriD) (i : Nat), (cells3 l).take (i * 3) = cells3 (l.take i)
  | [], i => by simp [cells3]
  | p :: l, 0 => by simp [cells3]
  | p :: l, i + 1 => by
    simp only [cells3, List.take_succ_cons]
    rw [List.take_append, tcells_len, List.take_of_length_le (by rw [tcells_len]; omega), show (i + 1) * 3 - 3 = i * 3 by omega, cells3_take l i]
theorem cells3_drop : ∀ (l : List TriD) (i : Nat), (cells3 l).drop (i * 3) = cells3 (l.drop i)
  | [], i => by simp [cells3]
  | p :: l, 0 => by simp [cells3]
  | p :: l, i + 1 => by
    simp only [cells3, List.drop_succ_cons]
    rw [List.drop_append, tcells_len, List.drop_of_length_le (by rw [tcells_len]; omega), show (i + 1) * 3 - 3 = i * 3 by omega, cells3_drop l i]
    rfl
theorem cells3_set : ∀ (l : List TriD) (k j : Nat) (v : Value) (p' : TriD) (h : k < l.length), j < 3 → (tcells (l[k]'h)).set j v = tcells p' → (cells3 l).set (k * 3 + j) v = cells3 (l.set k p')
  | [], k, j, v, p', h, _, _ => by simp at h
  | p :: l, 0, j, v, p', _, hj, hp => by
    simp only [cells3, List.set_cons_zero]
    rw [Nat.zero_mul, Nat.zero_add, List.set_append_left _ _ (by rw [tcells_len]; exact hj)]
    rw [← hp]
    rfl
  | p :: l, k + 1, j, v, p', h, hj, hp => by
    simp only [cells3, List.set_cons_succ]
    rw [List.set_append_right _ _ (by rw [tcells_len]; omega), tcells_len, show (k + 1) * 3 + j - 3 = k * 3 + j by omega, cells3_set l k j v p' (by simpa using h) hj (by simpa using hp)]
/-- the three cells of one -/
def TriC (w : World) (b off : Nat) (p : TriD) : Prop :=
  w.cell? ⟨b, off, none⟩ = some (.string p.1) ∧ w.cell? ⟨b, off + 1, none⟩ = some (.int .i64 p.2.1) ∧ w.cell? ⟨b, off + 2, none⟩ = some (.bool p.2.2)
/-- a row of triples known whole -/
def Row3 (t : TypeId) (w : World) (g cap n : Nat) (l : List TriD) : Prop := l.length = n ∧ n ≤ cap ∧ cap ≤ maxLen ∧ ∃ cur, Blk w g t cur ∧ cur.size = cap * 3 ∧ cur.toList.take (n * 3) = cells3 l
section
variable {t : TypeId} {w w' : World} {g cap n base : Nat} {l : List TriD}
theorem Row3.of_own {v : Value} (h : w.ownsRow base t 3 v n (cells3 l)) (hn : 0 < n) : ∃ g cap, v = .slice (some ⟨g, 0, none⟩) n cap ∧ base ≤ g ∧ Row3 t w g cap n l := by
  have hl : l.length = n := by have := h.1; rw [cells3_len] at this; omega
  rcases h.2 with ⟨_, h0⟩ | ⟨g, cap, cur, hv, hbg, hg, hnc, hmc, hsz, hx⟩
  · omega
  · exact ⟨g, cap, hv, hbg, hl, hnc, hmc, cur, hg, hsz, hx⟩
theorem Row3.own (h : Row3 t w g cap n l) (hb : base ≤ g) : w.ownsRow base t 3 (.slice (some ⟨g, 0, none⟩) n cap) n (cells3 l) := by
  obtain ⟨h0, h1, h2, cur, h3, h4, h5⟩ := h
  exact ⟨by rw [cells3_len, h0], .inr ⟨g, cap, cur, rfl, hb, h3, h1, h2, h4, h5⟩⟩
theorem Row3.blk (h : Row3 t w g cap n l) : ∃ cur, Blk w g t cur := by
  obtain ⟨h0, h1, h2, cur, h3, h4, h5⟩ := h
  exact ⟨cur, h3⟩
theorem Row3.lt (h : Row3 t w g cap n l) : g < w.heap.size := by
  obtain ⟨cur, hc⟩ := h.blk
  exact hc.lt
theorem Row3.frozen (h : Row3 t w g cap n l) (j : Nat) : w.frozen? ⟨g, j, none⟩ = false := by
  obtain ⟨cur, hc⟩ := h.blk
  exact hc.frozen j
theorem Row3.cells (h : Row3 t w g cap n l) (k : Nat) (hk : k < l.length) : TriC w g (k * 3) (l[k]'hk) := by
  obtain ⟨h0, h1, h2, cur, h3, h4, h5⟩ := h
  have at' : ∀ j v, j < 3 → (tcells (l[k]'hk))[j]? = some v → w.cell? ⟨g, k * 3 + j, none⟩ = some v := fun j v hj hv => by
    rw [h3.cell, ← hv, ← cells3_at l k j hk hj, ← h5, List.getElem?_take, if_pos (by omega)]
    simp
  exact ⟨at' 0 _ (by decide) rfl, at' 1 _ (by decide) rfl, at' 2 _ (by decide) rfl⟩
theorem Row3.set2 (h : Row3 t w g cap n l) (k : Nat) (b : Bool) (hk : k < l.length) : Row3 t (w.setCell ⟨g, k * 3 + 2, none⟩ (.bool b)) g cap n (l.set k ((l[k]'hk).1, (l[k]'hk).2.1, b)) := by
  obtain ⟨h0, h1, h2, cur, h3, h4, h5⟩ := h
  exact ⟨by simpa using h0, h1, h2, _, h3.set_ (k * 3 + 2) (.bool b), by simpa using h4, by rw [← cells3_set l k 2 (.bool b) _ hk (by decide) rfl, ← h5, Array.toList_setIfInBounds, List.take_set]⟩
theorem Row3.kept {X : Nat → Prop} (h : Row3 t w g cap n l) (hk : Kept X w w') (hx : ¬ X g) : Row3 t w' g cap n l := by
  obtain ⟨h0, h1, h2, cur, h3, h4, h5⟩ := h
  exact ⟨h0, h1, h2, cur, hk.blk h3 hx, h4, h5⟩
theorem Row3.below (h : Row3 t w g cap n l) {B : Nat} (hb : Below B w w') (hg : g < B) : Row3 t w' g cap n l := by
  obtain ⟨h0, h1, h2, cur, h3, h4, h5⟩ := h
  exact ⟨h0, h1, h2, cur, h3.below hb hg, h4, h5⟩
end
end Go.Proofs.YthimchhnhhchkaaGreatDoor

namespace Go.Proofs.YthimchhnhhchkaaGreatDoor
open Go.RowKit Go.Lib
set_option linter.unusedSimpArgs false
set_option linter.unusedVariables false

theorem bless_irr : ∀ a : List UInt8, Op.bytesLess a a = false
  | [] => rfl
  | a :: x => by
    have h : ¬ a < a := fun h => by have := UInt8.lt_iff_toNat_lt.1 h; omega
    simp [Op.bytesLess, h, bless_irr x]
theorem bless_trans : ∀ a b c : List UInt8, Op.bytesLess a b = true → Op.bytesLess b c = true → Op.bytesLess a c = true
  | _, [], _, h, _ => by simp [Op.bytesLess] at h
  | _, _ :: _, [], _, h => by simp [Op.bytesLess] at h
  | [], _ :: _, _ :: _, _, _ => rfl
  | a :: x, b :: y, c :: z, h1, h2 => by
    simp only [Op.bytesLess, Bool.or_eq_true, Bool.and_eq_true, decide_eq_true_eq, beq_iff_eq] at h1 h2 ⊢
    rcases h1 with h1 | ⟨rfl, h1⟩
    · rcases h2 with h2 | ⟨rfl, h2⟩
      · left
        have := UInt8.lt_iff_toNat_lt.1 h1
        have := UInt8.lt_iff_toNat_lt.1 h2
        exact UInt8.lt_iff_toNat_lt.2 (by omega)
      · exact .inl h1
    · rcases h2 with h2 | ⟨rfl, h2⟩
      · exact .inl h2
      · exact .inr ⟨rfl, bless_trans x y z h1 h2⟩
theorem lessB_irr (a : ByteArray) : lessB a a = false := bless_irr _
theorem lessB_trans {a b c : ByteArray} (h1 : lessB a b = true) (h2 : lessB b c = true) : lessB a c = true := bless_trans _ _ _ h1 h2
/-- a peer that may be -/
def PeerGood (p : PeerT) : Prop := idB (pid p) = true ∧ GateOk (pgi p) (pgs p) (pgd p) ∧ winE (pcap p) (pvals p) = 0 ∧ 0 ≤ plast p ∧ plast p ≤ 1073741824
theorem peerE_zero {p : PeerT} (h : peerE p = 0) : PeerGood p := by
  unfold peerE at h
  split at h
  · rename_i h1
    split at h
    · rename_i h2
      split at h
      · rename_i h3
        split at h
        · rename_i h4
          exact ⟨h1, h2, h3, (wi_true.1 h4).1, (wi_true.1 h4).2⟩
        · simp at h
      · contradiction
    · simp at h
  · simp at h
theorem peerE_of {p : PeerT} (h : PeerGood p) : peerE p = 0 := by
  obtain ⟨h1, h2, h3, h4, h5⟩ := h
  unfold peerE
  rw [if_pos h1, if_pos h2, if_pos h3, if_pos (wi_true.2 ⟨h4, h5⟩)]
theorem chkE_zero : ∀ (l : List PeerT) (a : ByteArray), chkE a l = 0 → (∀ p ∈ l, PeerGood p ∧ lessB a (pid p) = true) ∧ ∀ i j, (hi : i < l.length) → (hj : j < l.length) → i < j → lessB (pid (l[i]'hi)) (pid (l[j]'hj)) = true
  | [], a, _ => ⟨fun p hp => (by cases hp), fun i j hi => by simp at hi⟩
  | p :: l, a, h => by
    unfold chkE at h
    by_cases h1 : peerE p = 0
    · rw [if_pos h1] at h
      by_cases h2 : lessB a (pid p) = true
      · rw [if_pos h2] at h
        obtain ⟨i1, i2⟩ := chkE_zero l (pid p) h
        refine ⟨fun q hq => ?_, fun i j hi hj hij => ?_⟩
        · rcases List.mem_cons.1 hq with rfl | hq
          · exact ⟨peerE_zero h1, h2⟩
          · exact ⟨(i1 q hq).1, lessB_trans h2 (i1 q hq).2⟩
        · obtain ⟨j, rfl⟩ : ∃ j', j = j' + 1 := ⟨j - 1, by omega⟩
          cases i with
          | zero => exact (i1 _ (List.getElem_mem (by simpa using hj))).2
          | succ i => exact i2 i j (by simpa using hi) (by simpa using hj) (by omega)
      · rw [if_neg h2] at h; simp at h
    · rw [if_neg h1] at h; contradiction
def Asc6 (l : List PeerT) : Prop := ∀ i j, (hi : i < l.length) → (hj : j < l.length) → i < j → lessB (pid (l[i]'hi)) (pid (l[j]'hj)) = true
theorem peersE_zero {l : List PeerT} (h : peersE l = 0) : l.length ≤ 6 ∧ (∀ p ∈ l, PeerGood p) ∧ Asc6 l := by
  unfold peersE at h
  split at h
  · simp at h
  · obtain ⟨h1, h2⟩ := chkE_zero l _ h
    exact ⟨by omega, fun p hp => (h1 p hp).1, h2⟩
theorem good64 {p : PeerT} (h : PeerGood p) : (pvals p).length ≤ 64 := by have := winE_zero h.2.2.1; omega
theorem asc_ne {l : List PeerT} (h : Asc6 l) {i j : Nat} (hi : i < l.length) (hj : j < l.length) (hij : i < j) : pid (l[i]'hi) ≠ pid (l[j]'hj) := fun e => by
  have := h i j hi hj hij
  rw [e, lessB_irr] at this
  cases this
section
variable (A : Option Addr) (c B n : Nat) (l : List PeerT)
theorem find_some (ha : Asc6 l) (k : Nat) (hk : k < l.length) (hm : n ≤ 1000) (w : World) (hp : Peers w B A n l) (hB : B ≤ w.heap.size) :
    Calls Tryz.prog 162 #[.slice A n c, .string (pid (l[k]'hk))] w fun e w' => e = .returned (.tuple #[.int .i64 (k : Int), .bool true]) ∧ Below w.heap.size w w' := by
  refine find_is A c B n l _ k true (by have := hp.len; omega) hm (fun j hj hjk => ha j k hj hk hjk) (fun j hj hjk => ?_) ⟨fun _ => ⟨hk, rfl⟩, fun _ => rfl⟩ w hp hB
  rcases Nat.lt_or_ge k j with h | h
  · cases hq : lessB (pid (l[j]'hj)) (pid (l[k]'hk))
    · rfl
    · have := lessB_trans hq (ha k j hk hj h)
      rw [lessB_irr] at this
      cases this
  · have : j = k := by omega
    subst this
    exact lessB_irr _
theorem first_not (p : Nat → Bool) : ∀ m, ∃ i0, i0 ≤ m ∧ (∀ j, j < i0 → p j = true) ∧ (i0 = m ∨ p i0 = false)
  | 0 => ⟨0, Nat.le_refl _, fun j h => absurd h (by omega), .inl rfl⟩
  | m + 1 => by
    obtain ⟨i0, h1, h2, h3⟩ := first_not p m
    rcases h3 with rfl | h3
    · cases hq : p i0
      · exact ⟨i0, by omega, h2, .inr hq⟩
      · exact ⟨i0 + 1, Nat.le_refl _, fun j hj => by
          by_cases h : j = i0
          · subst h; exact hq
          · exact h2 j (by omega), .inl rfl⟩
    · exact ⟨i0, by omega, h2, .inr h3⟩
theorem find_none (ha : Asc6 l) (id : ByteArray) (hno : ∀ j, (hj : j < l.length) → pid (l[j]'hj) ≠ id) (hln : l.length = n) (hm : n ≤ 1000) :
    ∃ i0, i0 ≤ n ∧ (∀ j, (hj : j < l.length) → j < i0 → lessB (pid (l[j]'hj)) id = true) ∧ (∀ j, (hj : j < l.length) → i0 ≤ j → lessB (pid (l[j]'hj)) id = false) ∧ ∀ (w : World) (hp : Peers w B A n l) (hB : B ≤ w.heap.size),
      Calls Tryz.prog 162 #[.slice A n c, .string id] w fun e w' => e = .returned (.tuple #[.int .i64 (i0 : Int), .bool false]) ∧ Below w.heap.size w w' := by
  obtain ⟨i0, h1, h2, h3⟩ := first_not (fun j => if hj : j < l.length then lessB (pid (l[j]'hj)) id else true) n
  have hlo : ∀ j, (hj : j < l.length) → j < i0 → lessB (pid (l[j]'hj)) id = true := fun j hj hji => by
    have := h2 j hji
    rwa [dif_pos hj] at this
  have hhi : ∀ j, (hj : j < l.length) → i0 ≤ j → lessB (pid (l[j]'hj)) id = false := fun j hj hij => by
    rcases h3 with rfl | h3
    · omega
    · have hi : i0 < l.length := by omega
      simp only [dif_pos hi] at h3
      rcases Nat.lt_or_ge i0 j with h | h
      · cases hq : lessB (pid (l[j]'hj)) id
        · rfl
        · have := lessB_trans (ha i0 j hi hj h) hq
          rw [h3] at this
          cases this
      · have : j = i0 := by omega
        subst this
        exact h3
  refine ⟨i0, h1, hlo, hhi, fun w hp hB => find_is A c B n l id i0 false h1 hm hlo hhi ⟨fun h => (by cases h), fun ⟨hj, h⟩ => absurd h (hno i0 hj)⟩ w hp hB⟩
end
theorem find_cases (l : List PeerT) (id : ByteArray) : (∃ k, ∃ hk : k < l.length, pid (l[k]'hk) = id) ∨ ∀ j, (hj : j < l.length) → pid (l[j]'hj) ≠ id := by
  by_cases h : ∃ k, ∃ hk : k < l.length, pid (l[k]'hk) = id
  · exact .inl h
  · exact .inr fun j hj e => h ⟨j, hj, e⟩
end Go.Proofs.YthimchhnhhchkaaGreatDoor

namespace Go.Proofs.YthimchhnhhchkaaGreatDoor
open Go.RowKit Go.Lib
set_option linter.unusedSimpArgs false
set_option linter.unusedVariables false

/-- a node's settings: its name, its incarnation, ticks between two beats, values of a window, the least spread -/
abbrev CfgD := ByteArray × Int × Int × Int × Int
abbrev cfi (c : CfgD) : Int := c.2.1
abbrev cfe (c : CfgD) : Int := c.2.2.1
abbrev cfc (c : CfgD) : Int := c.2.2.2.1
abbrev cfl (c : CfgD) : Int := c.2.2.2.2
def CfgIn (c : CfgD) : Prop := 0 ≤ cfi c ∧ cfi c ≤ 2147483647 ∧ 1 ≤ cfe c ∧ cfe c ≤ 16777216 ∧ 1 ≤ cfc c ∧ cfc c ≤ 64 ∧ 1 ≤ cfl c ∧ cfl c ≤ 16777216
/-- its level of a peer -/
def plv (least now : Int) (d : PeerD) : Int := ((Lv.lvF (lvV d.2.2.2.1.length (s1 d.2.2.2.1) (s2 d.2.2.2.1) least).toNat d.2.2.2.1.length (s1 d.2.2.2.1) (now - d.2.2.2.2) : Nat) : Int)
/-- may the level of a peer be asked? -/
def PlOk (least now : Int) (d : PeerD) : Prop := lookE d.2.2.1 least d.2.2.2.1 = 0 ∧ 0 ≤ now - d.2.2.2.2 ∧ now - d.2.2.2.2 ≤ 1073741824
def fnd (D : List PeerD) (id : ByteArray) : Option PeerD := D.find? (fun d => decide (d.1 = id))
def lvOf (least now : Int) (D : List PeerD) (id : ByteArray) : Int := match fnd D id with | some d => plv least now d | none => 0
def lvEr (D : List PeerD) (id : ByteArray) : Int := match fnd D id with | some _ => 0 | none => 4
theorem lvV_nat {N S Q least : Int} (hs : sumsE N S Q = 0) (hN : 1 ≤ N) (h0 : 1 ≤ least) (h1 : least ≤ 16777216) : ((lvV N S Q least).toNat : Int) = lvV N S Q least := by
  have h2 : 1 ≤ N * least := by have := Int.mul_le_mul hN h0 (by omega) (by omega); omega
  have h3 : 0 ≤ lvM N least := by unfold lvM; exact Int.mul_nonneg (by omega) (by omega)
  unfold lvV
  split <;> omega
/-- the first peer of a name -/
theorem fnd_some {D : List PeerD} {id : ByteArray} {d : PeerD} (h : fnd D id = some d) : ∃ k, ∃ hk : k < D.length, D[k]'hk = d ∧ (D[k]'hk).1 = id ∧ ∀ j, (hj : j < D.length) → j < k → (D[j]'hj).1 ≠ id := by
  unfold fnd at h
  rw [List.find?_eq_some_iff_getElem] at h
  obtain ⟨h1, k, hk, h2, h3⟩ := h
  exact ⟨k, hk, h2, by rw [h2]; simpa using h1, fun j hj hjk => by have := h3 j hjk; simpa using this⟩
theorem fnd_none {D : List PeerD} {id : ByteArray} (h : fnd D id = none) : ∀ j, (hj : j < D.length) → (D[j]'hj).1 ≠ id := by
  unfold fnd at h
  rw [List.find?_eq_none] at h
  intro j hj e
  exact h _ (List.getElem_mem hj) (by simpa using e)
/-- what subs are told: those whose mark turns -/
def markOf (f : ByteArray → Int) (s : TriD) : Bool := decide (s.2.1 ≤ f s.1)
def subsTo (f : ByteArray → Int) (S : List TriD) : List TriD := S.map fun s => (s.1, s.2.1, markOf f s)
def notesOf (f : ByteArray → Int) (S : List TriD) : List TriD := S.filterMap fun s => if markOf f s = s.2.2 then none else some (s.1, s.2.1, markOf f s)
theorem notesOf_snoc (f : ByteArray → Int) (S : List TriD) (k : Nat) (h : k < S.length) : notesOf f (S.take (k + 1)) = notesOf f (S.take k) ++ (if markOf f (S[k]'h) = (S[k]'h).2.2 then [] else [((S[k]'h).1, (S[k]'h).2.1, markOf f (S[k]'h))]) := by
  unfold notesOf
  rw [List.take_succ_eq_append_getElem h, List.filterMap_append]
  congr 1
  by_cases he : markOf f (S[k]'h) = (S[k]'h).2.2
  · simp [he]
  · simp [he]
theorem notesOf_le (f : ByteArray → Int) (S : List TriD) : (notesOf f S).length ≤ S.length := List.length_filterMap_le _ _
/-- subs of which the first k were told -/
def subsMid (f : ByteArray → Int) (S : List TriD) (k : Nat) : List TriD := subsTo f (S.take k) ++ S.drop k
theorem subsMid_zero (f : ByteArray → Int) (S : List TriD) : subsMid f S 0 = S := rfl
theorem subsMid_len (f : ByteArray → Int) (S : List TriD) (k : Nat) : (subsMid f S k).length = S.length := by unfold subsMid subsTo; simp; omega
theorem subsMid_all (f : ByteArray → Int) (S : List TriD) (k : Nat) (h : S.length ≤ k) : subsMid f S k = subsTo f S := by unfold subsMid; rw [List.take_of_length_le h, List.drop_of_length_le h, List.append_nil]
theorem subsMid_get (f : ByteArray → Int) (S : List TriD) (k : Nat) (h : k < S.length) : (subsMid f S k)[k]? = some (S[k]'h) := by
  have hl : (subsTo f (S.take k)).length = k := by unfold subsTo; simp; omega
  unfold subsMid
  rw [List.getElem?_append_right (by omega), hl, Nat.sub_self, List.getElem?_drop, Nat.add_zero, List.getElem?_eq_getElem h]
theorem subsMid_at (f : ByteArray → Int) (S : List TriD) (k : Nat) (h : k < S.length) (h' : k < (subsMid f S k).length) : (subsMid f S k)[k]'h' = S[k]'h := by
  have := subsMid_get f S k h
  rw [List.getElem?_eq_getElem h'] at this
  injection this
theorem subsMid_succ (f : ByteArray → Int) (S : List TriD) (k : Nat) (h : k < S.length) : subsMid f S (k + 1) = (subsMid f S k).set k ((S[k]'h).1, (S[k]'h).2.1, markOf f (S[k]'h)) := by
  have hl : (subsTo f (S.take k)).length = k := by unfold subsTo; simp; omega
  have e1 : subsTo f (S.take (k + 1)) = subsTo f (S.take k) ++ [((S[k]'h).1, (S[k]'h).2.1, markOf f (S[k]'h))] := by
    unfold subsTo
    rw [List.take_succ_eq_append_getElem h, List.map_append]
    rfl
  unfold subsMid
  rw [List.set_append_right _ _ (by omega), hl, Nat.sub_self, List.drop_eq_getElem_cons h, e1, List.append_assoc]
  rfl
/-- one whose mark does not turn stays -/
theorem subsMid_stay (f : ByteArray → Int) (S : List TriD) (k : Nat) (h : k < S.length) (he : markOf f (S[k]'h) = (S[k]'h).2.2) : subsMid f S (k + 1) = subsMid f S k := by
  rw [subsMid_succ f S k h, he]
  have h' : k < (subsMid f S k).length := by rw [subsMid_len]; exact h
  have := subsMid_at f S k h h'
  rw [← this]
  exact List.set_getElem_self h'
end Go.Proofs.YthimchhnhhchkaaGreatDoor

namespace Go.Proofs.YthimchhnhhchkaaGreatDoor
open Go.RowKit Go.Lib
set_option linter.unusedSimpArgs false
set_option linter.unusedVariables false






















end Go.Proofs.YthimchhnhhchkaaGreatDoor
