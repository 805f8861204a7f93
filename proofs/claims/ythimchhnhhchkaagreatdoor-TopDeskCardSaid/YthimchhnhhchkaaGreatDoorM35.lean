/- A node in memory: what it holds, and what stays where others write. (with what it needs) -/
import Derived.Test.YthimchhnhhchkaaGreatDoorM33
import Derived.Test.YthimchhnhhchkaaGreatDoorM34
namespace Go.Proofs.YthimchhnhhchkaaGreatDoor
open Go.RowKit Go.Lib
set_option linter.unusedSimpArgs false
set_option linter.unusedVariables false

/-- subs in a slice -/
def SubsAt (w : World) (sv : Value) (S : List TriD) : Prop := (sv = .slice none 0 0 ∧ S = []) ∨ ∃ g cap n, sv = .slice (some ⟨g, 0, none⟩) n cap ∧ Row3 187 w g cap n S
theorem SubsAt.own {w : World} {sv : Value} {S : List TriD} (h : SubsAt w sv S) : w.ownsRow 0 187 3 sv S.length (cells3 S) := by
  rcases h with ⟨rfl, rfl⟩ | ⟨g, cap, n, rfl, h⟩
  · exact World.ownsRow_nil _ _ _ _
  · have := h.own (base := 0) (Nat.zero_le _)
    rw [h.1]; exact this
theorem SubsAt.of_own {w : World} {base n : Nat} {sv : Value} {S : List TriD} (h : w.ownsRow base 187 3 sv n (cells3 S)) : SubsAt w sv S := by
  have hl : S.length = n := by have := h.1; rw [cells3_len] at this; omega
  rcases h.2 with ⟨rfl, h0⟩ | ⟨g, cap, cur, rfl, hbg, hg, hnc, hmc, hsz, hx⟩
  · exact .inl ⟨rfl, List.eq_nil_of_length_eq_zero (by omega)⟩
  · exact .inr ⟨g, cap, n, rfl, hl, hnc, hmc, cur, hg, hsz, hx⟩
theorem SubsAt.lt {w : World} {sv : Value} {S : List TriD} (h : SubsAt w sv S) : ∀ g, sv.ownBlock = some g → g < w.heap.size := by
  rcases h with ⟨rfl, rfl⟩ | ⟨g, cap, n, rfl, h⟩
  · intro g hg; cases hg
  · intro g' hg
    simp only [Value.ownBlock, Option.some.injEq] at hg
    subst hg
    exact h.lt
theorem SubsAt.kept {X : Nat → Prop} {w w' : World} {sv : Value} {S : List TriD} (h : SubsAt w sv S) (hk : Kept X w w') (hx : ∀ g, sv.ownBlock = some g → ¬ X g) : SubsAt w' sv S := by
  rcases h with ⟨rfl, rfl⟩ | ⟨g, cap, n, rfl, h⟩
  · exact .inl ⟨rfl, rfl⟩
  · exact .inr ⟨g, cap, n, rfl, h.kept hk (hx g rfl)⟩
/-- one who holds peers and subs: the cells of its block, but for the two slices, are told by mk; X: the blocks that it uses -/
structure HoldIs (T : TypeId) (mk : Value → Value → Array Value) (X : Nat → Prop) (w : World) (b : Nat) (A : Option Addr) (pn pc : Nat) (sv : Value) (l : List PeerT) (D : List PeerD) (S : List TriD) : Prop where
  blk : Blk w b T (mk (.slice A pn pc) sv)
  peers : Peers w w.heap.size A pn l
  map : l.map Prod.fst = D
  room : pn ≤ pc ∧ pc ≤ maxLen
  subs : SubsAt w sv S
  xb : X b
  xs : ∀ g, sv.ownBlock = some g → X g ∧ g ≠ b
  far : PBlk A l (fun k => X k ∧ k ≠ b ∧ sv.ownBlock ≠ some k)
  xlt : ∀ k, X k → k < w.heap.size
def HoldAt (T : TypeId) (mk : Value → Value → Array Value) (X : Nat → Prop) (w : World) (b : Nat) (D : List PeerD) (S : List TriD) : Prop := ∃ A pn pc sv l, HoldIs T mk X w b A pn pc sv l D S
/-- the blocks after a call: those before, and new ones -/
def grow (X : Nat → Prop) (w w' : World) : Nat → Prop := fun k => (X k ∨ w.heap.size ≤ k) ∧ k < w'.heap.size
section
variable {T : TypeId} {mk mk' : Value → Value → Array Value} {X Y : Nat → Prop} {w w1 w2 : World} {b pn pc : Nat} {A : Option Addr} {sv : Value} {l : List PeerT} {D : List PeerD} {S : List TriD}
theorem HoldIs.at_ (h : HoldIs T mk X w b A pn pc sv l D S) : HoldAt T mk X w b D S := ⟨_, _, _, _, _, h⟩
theorem HoldIs.blt (h : HoldIs T mk X w b A pn pc sv l D S) : b < w.heap.size := h.blk.lt
theorem HoldIs.len (h : HoldIs T mk X w b A pn pc sv l D S) : D.length = pn := by rw [← h.map, List.length_map]; exact h.peers.len
/-- where others write -/
theorem HoldIs.kept (h : HoldIs T mk Y w b A pn pc sv l D S) (hk : Kept X w w1) (hd : ∀ k, X k → ¬ Y k) : HoldIs T mk Y w1 b A pn pc sv l D S :=
  ⟨hk.blk h.blk (fun hx => hd _ hx h.xb), (hk.peers h.peers (h.far.mono fun k hy hx => hd k hx hy.1)).more hk.size, h.map, h.room, h.subs.kept hk (fun g hg hx => hd g hx (h.xs g hg).1), h.xb, h.xs, h.far, fun k hy => Nat.lt_of_lt_of_le (h.xlt k hy) hk.size⟩
theorem HoldAt.kept (h : HoldAt T mk Y w b D S) (hk : Kept X w w1) (hd : ∀ k, X k → ¬ Y k) : HoldAt T mk Y w1 b D S := by
  obtain ⟨_, _, _, _, _, h⟩ := h
  exact (h.kept hk hd).at_
theorem HoldIs.below (h : HoldIs T mk Y w b A pn pc sv l D S) (hb : Below w.heap.size w w1) : HoldIs T mk Y w1 b A pn pc sv l D S :=
  h.kept (X := fun _ => False) (.of_below hb) (fun _ h => h.elim)
theorem HoldIs.drew (h : HoldIs T mk Y w b A pn pc sv l D S) : HoldIs T mk Y w.drew b A pn pc sv l D S := h.below (Below.refl _ _).drew
theorem HoldAt.below (h : HoldAt T mk Y w b D S) (hb : Below w.heap.size w w1) : HoldAt T mk Y w1 b D S := by
  obtain ⟨_, _, _, _, _, h⟩ := h
  exact (h.below hb).at_
/-- more blocks -/
theorem HoldIs.wide (h : HoldIs T mk X w b A pn pc sv l D S) (hx : ∀ k, X k → Y k) (hy : ∀ k, Y k → k < w.heap.size) : HoldIs T mk Y w b A pn pc sv l D S :=
  ⟨h.blk, h.peers, h.map, h.room, h.subs, hx _ h.xb, fun g hg => ⟨hx _ (h.xs g hg).1, (h.xs g hg).2⟩, h.far.mono fun k hk => ⟨hx _ hk.1, hk.2⟩, hy⟩
theorem HoldAt.wide (h : HoldAt T mk X w b D S) (hx : ∀ k, X k → Y k) (hy : ∀ k, Y k → k < w.heap.size) : HoldAt T mk Y w b D S := by
  obtain ⟨_, _, _, _, _, h⟩ := h
  exact (h.wide hx hy).at_
theorem HoldIs.grow (h : HoldIs T mk X w1 b A pn pc sv l D S) : HoldIs T mk (grow X w w1) w1 b A pn pc sv l D S := h.wide (fun k hk => ⟨.inl hk, h.xlt k hk⟩) (fun k hk => hk.2)
/-- a number in its own block -/
theorem HoldIs.set (h : HoldIs T mk X w b A pn pc sv l D S) (i : Nat) (v : Value) (hm : (mk (.slice A pn pc) sv).setIfInBounds i v = mk' (.slice A pn pc) sv) : HoldIs T mk' X (w.setCell ⟨b, i, none⟩ v) b A pn pc sv l D S := by
  have hk : Kept (· = b) w (w.setCell ⟨b, i, none⟩ v) := (Kept.refl (· = b) _).setCell (a := ⟨b, i, none⟩) (.inl rfl) v
  exact ⟨hm ▸ h.blk.set_ i v, (hk.peers h.peers (h.far.mono fun k hy hx => hy.2.1 hx)).more hk.size, h.map, h.room, h.subs.kept hk (fun g hg hx => (h.xs g hg).2 hx), h.xb, h.xs, h.far, fun k hy => Nat.lt_of_lt_of_le (h.xlt k hy) hk.size⟩
/-- other peers -/
theorem HoldIs.turn {A' : Option Addr} {n' c' i : Nat} {l' : List PeerT} {D' : List PeerD} (h0 : HoldIs T mk X w b A pn pc sv l D S) (hb : Below w.heap.size w w1) (hp : Peers w1 w1.heap.size A' n' l') (hm' : l'.map Prod.fst = D') (hr : n' ≤ c' ∧ c' ≤ maxLen) (hkp : KeepsP w A l A' l')
    (hm : (mk (.slice A pn pc) sv).setIfInBounds i (.slice A' n' c') = mk' (.slice A' n' c') sv) : HoldIs T mk' (Go.Proofs.YthimchhnhhchkaaGreatDoor.grow X w w1) (w1.setCell ⟨b, i, none⟩ (.slice A' n' c')) b A' n' c' sv l' D' S := by
  have h := h0.below hb
  have hk : Kept (· = b) w1 (w1.setCell ⟨b, i, none⟩ (.slice A' n' c')) := (Kept.refl (· = b) _).setCell (a := ⟨b, i, none⟩) (.inl rfl) _
  have hsz : (w1.setCell ⟨b, i, none⟩ (.slice A' n' c')).heap.size = w1.heap.size := by simp [World.setCell]
  have hfar : PBlk A' l' (fun k => Go.Proofs.YthimchhnhhchkaaGreatDoor.grow X w w1 k ∧ k ≠ b ∧ sv.ownBlock ≠ some k) := by
    have h1 := hkp (fun k => (X k ∨ w.heap.size ≤ k) ∧ k ≠ b ∧ sv.ownBlock ≠ some k) (fun k hk => ⟨.inr hk, fun e => by have := h0.blt; omega, fun e => by have := h0.subs.lt k e; omega⟩) (h0.far.mono fun k hk => ⟨.inl hk.1, hk.2⟩)
    have h2 := h1.and hp.blk
    exact h2.mono fun k hk => ⟨⟨hk.1.1, hk.2⟩, hk.1.2⟩
  refine ⟨hm ▸ h.blk.set_ i _, (hk.peers hp (hfar.mono fun k hy hx => hy.2.1 hx)).more hk.size, hm', hr, h.subs.kept hk (fun g hg hx => (h.xs g hg).2 hx), ⟨.inl h.xb, h.blt⟩, fun g hg => ⟨⟨.inl (h.xs g hg).1, h.subs.lt g hg⟩, (h.xs g hg).2⟩, hfar, fun k hy => by rw [hsz]; exact hy.2⟩
/-- other subs -/
theorem HoldIs.join {sv' : Value} {i : Nat} {S' : List TriD} (h0 : HoldIs T mk X w b A pn pc sv l D S) (hk0 : Kept (fun k => sv.ownBlock = some k) w w1) (hs : SubsAt w1 sv' S') (hb : sv'.ownBlock = sv.ownBlock ∨ ∀ g, sv'.ownBlock = some g → w.heap.size ≤ g)
    (hm : (mk (.slice A pn pc) sv).setIfInBounds i sv' = mk' (.slice A pn pc) sv') : HoldIs T mk' (Go.Proofs.YthimchhnhhchkaaGreatDoor.grow X w w1) (w1.setCell ⟨b, i, none⟩ sv') b A pn pc sv' l D S' := by
  have hk : Kept (· = b) w1 (w1.setCell ⟨b, i, none⟩ sv') := (Kept.refl (· = b) _).setCell (a := ⟨b, i, none⟩) (.inl rfl) _
  have hsz : (w1.setCell ⟨b, i, none⟩ sv').heap.size = w1.heap.size := by simp [World.setCell]
  have hbb := hk0.blk h0.blk (fun hx => (h0.xs b hx).2 rfl)
  have hpp := (hk0.peers h0.peers (h0.far.mono fun k hy hx => hy.2.2 hx)).more hk0.size
  have hg : ∀ g, sv'.ownBlock = some g → (X g ∨ w.heap.size ≤ g) ∧ g ≠ b ∧ g < w1.heap.size := fun g hg => by
    rcases hb with e | e
    · exact ⟨.inl (h0.xs g (e ▸ hg)).1, (h0.xs g (e ▸ hg)).2, hs.lt g hg⟩
    · exact ⟨.inr (e g hg), fun e2 => by have := h0.blt; have := e g hg; omega, hs.lt g hg⟩
  have hfar : PBlk A l (fun k => Go.Proofs.YthimchhnhhchkaaGreatDoor.grow X w w1 k ∧ k ≠ b ∧ sv'.ownBlock ≠ some k) := (h0.far.and h0.peers.blk).mono fun k hy => ⟨⟨.inl hy.1.1, Nat.lt_of_lt_of_le hy.2 hk0.size⟩, hy.1.2.1, fun e => by
    rcases hb with e2 | e2
    · exact hy.1.2.2 (e2 ▸ e)
    · have := e2 k e; omega⟩
  refine ⟨hm ▸ hbb.set_ i _, (hk.peers hpp (hfar.mono fun k hy hx => hy.2.1 hx)).more hk.size, h0.map, h0.room, hs.kept hk (fun g hg' hx => (hg g hg').2.1 hx), ⟨.inl h0.xb, hbb.lt⟩, fun g hg' => ⟨⟨(hg g hg').1, (hg g hg').2.2⟩, (hg g hg').2.1⟩, hfar, fun k hy => by rw [hsz]; exact hy.2⟩
/-- subs whose marks were turned in place -/
theorem HoldIs.mark {g cap n : Nat} {S' : List TriD} (h0 : HoldIs T mk X w b A pn pc (.slice (some ⟨g, 0, none⟩) n cap) l D S) (hk : Kept (· = g) w w1) (hs : Row3 187 w1 g cap n S') : HoldIs T mk X w1 b A pn pc (.slice (some ⟨g, 0, none⟩) n cap) l D S' :=
  ⟨hk.blk h0.blk (fun hx => (h0.xs g rfl).2 hx.symm), (hk.peers h0.peers (h0.far.mono fun k hy hx => hy.2.2 (by simp only [Value.ownBlock]; rw [hx]))).more hk.size, h0.map, h0.room, .inr ⟨g, cap, n, rfl, hs⟩, h0.xb, h0.xs, h0.far, fun k hy => Nat.lt_of_lt_of_le (h0.xlt k hy) hk.size⟩
end
end Go.Proofs.YthimchhnhhchkaaGreatDoor

namespace Go.Proofs.YthimchhnhhchkaaGreatDoor
open Go.RowKit Go.Lib
set_option linter.unusedSimpArgs false
set_option linter.unusedVariables false

abbrev dpt (d : PeerD) : PeerT := (d, none, 0)
def DGood (d : PeerD) : Prop := PeerGood (dpt d)
theorem DGood.of {p : PeerT} (h : PeerGood p) : DGood p.1 := h
theorem DGood.to {p : PeerT} (h : DGood p.1) : PeerGood p := h
def DLess (a b : PeerD) : Prop := lessB a.1 b.1 = true
theorem chkE_dpt : ∀ (l : List PeerT) (a : ByteArray), chkE a l = chkE a ((l.map Prod.fst).map dpt)
  | [], a => rfl
  | p :: l, a => by
    simp only [List.map_cons, chkE]
    rw [chkE_dpt l (pid p)]
    rfl
def peersD (D : List PeerD) : Int := peersE (D.map dpt)
theorem peersE_map (l : List PeerT) : peersE l = peersD (l.map Prod.fst) := by
  unfold peersD peersE
  rw [← chkE_dpt, List.length_map, List.length_map]
theorem peerE_good {p : PeerT} (h : PeerGood p) : peerE p = 0 := by
  obtain ⟨h1, h2, h3, h4, h5⟩ := h
  unfold peerE
  rw [if_pos h1, if_pos h2, if_pos h3, if_pos (wi_true.2 ⟨h4, h5⟩)]
theorem chkE_good : ∀ (D : List PeerD) (a : ByteArray), (∀ d ∈ D, DGood d) → D.Pairwise DLess → (∀ d ∈ D, lessB a d.1 = true) → chkE a (D.map dpt) = 0
  | [], _, _, _, _ => rfl
  | d :: D, a, hg, hp, ha => by
    rw [List.pairwise_cons] at hp
    have h1 : peerE (dpt d) = 0 := peerE_good (hg d (List.mem_cons_self ..))
    have h2 : lessB a (pid (dpt d)) = true := ha d (List.mem_cons_self ..)
    simp only [List.map_cons, chkE]
    rw [if_pos h1, if_pos h2]
    exact chkE_good D _ (fun x hx => hg x (List.mem_cons_of_mem _ hx)) hp.2 (fun x hx => hp.1 x hx)
/-- peers that may be -/
structure PsOk (D : List PeerD) : Prop where
  six : D.length ≤ 6
  good : ∀ d ∈ D, DGood d
  asc : D.Pairwise DLess
theorem PsOk.zero {D : List PeerD} (h : PsOk D) : peersD D = 0 := by
  unfold peersD peersE
  rw [if_neg (by rw [List.length_map]; have := h.six; omega)]
  exact chkE_good D _ h.good h.asc (fun d hd => less_empty (idB_ne (h.good d hd).1).1)
theorem PsOk.of_zero {l : List PeerT} (h : peersE l = 0) : PsOk (l.map Prod.fst) := by
  obtain ⟨h1, h2, h3⟩ := peersE_zero h
  refine ⟨by simpa using h1, fun d hd => ?_, ?_⟩
  · obtain ⟨p, hp, rfl⟩ := List.mem_map.1 hd
    exact .of (h2 p hp)
  · rw [List.pairwise_iff_getElem]
    intro i j hi hj hij
    have := h3 i j (by simpa using hi) (by simpa using hj) hij
    simpa [DLess] using this
/-! ### the first of a name -/
def idxOf (D : List PeerD) (id : ByteArray) : Option Nat := D.findIdx? (fun d => decide (d.1 = id))
theorem idx_some {D : List PeerD} {id : ByteArray} {k : Nat} (h : idxOf D id = some k) : ∃ hk : k < D.length, (D[k]'hk).1 = id ∧ ∀ j, (hj : j < D.length) → j < k → (D[j]'hj).1 ≠ id := by
  unfold idxOf at h
  rw [List.findIdx?_eq_some_iff_getElem] at h
  obtain ⟨hk, h1, h2⟩ := h
  exact ⟨hk, by simpa using h1, fun j hj hjk => by simpa using h2 j hjk⟩
theorem idx_none {D : List PeerD} {id : ByteArray} (h : idxOf D id = none) : ∀ j, (hj : j < D.length) → (D[j]'hj).1 ≠ id := by
  unfold idxOf at h
  rw [List.findIdx?_eq_none_iff] at h
  intro j hj e
  have := h _ (List.getElem_mem hj)
  simp [e] at this
theorem fnd_idx (D : List PeerD) (id : ByteArray) : fnd D id = (idxOf D id).bind fun k => D[k]? := by
  unfold fnd idxOf
  induction D with
  | nil => rfl
  | cons d D ih =>
    by_cases h : d.1 = id
    · simp [List.find?_cons, List.findIdx?_cons, h]
    · simp only [List.find?_cons, List.findIdx?_cons, h, decide_false, ih]
      simp [Option.bind_map, Function.comp_def]
/-! ### the state -/
structure NSt where
  c : CfgD
  now : Int
  seq : Int
  drops : Int
  D : List PeerD
  S : List TriD
structure NGood (s : NSt) : Prop where
  id : idB s.c.1 = true
  cfg : CfgIn s.c
  now0 : 0 ≤ s.now
  now1 : s.now ≤ 1073741824
  seqs : s.seq = s.now / cfe s.c
  drops0 : 0 ≤ s.drops
  drops1 : s.drops ≤ 1073741824
  ps : PsOk s.D
  pv : ∀ d ∈ s.D, 1 ≤ d.2.2.2.1.length ∧ d.2.2.2.2 ≤ s.now
  eight : s.S.length ≤ 8
  th : ∀ t ∈ s.S, t.1.size ≤ 8 ∧ 1 ≤ t.2.1 ∧ t.2.1 ≤ 60
def NodeIs (X : Nat → Prop) (w : World) (b : Nat) (A : Option Addr) (pn pc : Nat) (sv : Value) (l : List PeerT) (s : NSt) : Prop := HoldIs 167 (nodeCs s.c s.now s.seq s.drops) X w b A pn pc sv l s.D s.S
def NodeAt (X : Nat → Prop) (w : World) (b : Nat) (s : NSt) : Prop := HoldAt 167 (nodeCs s.c s.now s.seq s.drops) X w b s.D s.S
theorem NodeAt.is {X : Nat → Prop} {w : World} {b : Nat} {s : NSt} (h : NodeAt X w b s) : ∃ A pn pc sv l, NodeIs X w b A pn pc sv l s := h
theorem NodeIs.at_ {X : Nat → Prop} {w : World} {b : Nat} {A : Option Addr} {pn pc : Nat} {sv : Value} {l : List PeerT} {s : NSt} (h : NodeIs X w b A pn pc sv l s) : NodeAt X w b s := HoldIs.at_ h
/-- the level that it tells of a name -/
def NSt.lv (s : NSt) (id : ByteArray) : Int := lvOf (cfl s.c) s.now s.D id
theorem look_good {d : PeerD} {least : Int} (h : DGood d) (h1 : 1 ≤ d.2.2.2.1.length) (h2 : 1 ≤ least) (h3 : least ≤ 16777216) : lookE d.2.2.1 least d.2.2.2.1 = 0 := by
  have hw : winE d.2.2.1 d.2.2.2.1 = 0 := h.2.2.1
  unfold lookE
  rw [if_pos hw, if_pos (wi_true.2 ⟨h2, h3⟩), if_neg (by omega)]
theorem NGood.pl {s : NSt} (h : NGood s) : ∀ d ∈ s.D, PlOk (cfl s.c) s.now d := fun d hd => by
  have hg := h.ps.good d hd
  obtain ⟨h1, h2⟩ := h.pv d hd
  have hc := h.cfg
  unfold CfgIn at hc
  have h4 : 0 ≤ d.2.2.2.2 := hg.2.2.2.1
  have := h.now1
  exact ⟨look_good hg h1 (by omega) (by omega), by omega, by omega⟩
/-- what subs are told now -/
def NSt.tell (s : NSt) : NSt := { s with S := subsTo s.lv s.S }
def NSt.notes (s : NSt) : List TriD := notesOf s.lv s.S
theorem NGood.tell {s : NSt} (h : NGood s) : NGood s.tell :=
  ⟨h.id, h.cfg, h.now0, h.now1, h.seqs, h.drops0, h.drops1, h.ps, h.pv, by show (subsTo _ _).length ≤ 8; unfold subsTo; rw [List.length_map]; exact h.eight, fun t ht => by
    obtain ⟨u, hu, rfl⟩ := List.mem_map.1 ht
    exact h.th u hu⟩
end Go.Proofs.YthimchhnhhchkaaGreatDoor

namespace Go.Proofs.YthimchhnhhchkaaGreatDoor
open Go.RowKit Go.Lib
set_option linter.unusedSimpArgs false
set_option linter.unusedVariables false

def tagg (s : TriD) : Value := .agg (tcells s).toArray
/-- the place of the first of which P holds, or -1 -/
def ixI (P : TriD → Bool) (S : List TriD) : Int := match S.findIdx? P with | some k => (k : Int) | none => -1

/-- a sub of that name and threshold -/
def isSub (id : ByteArray) (th : Int) (p : TriD) : Bool := eqB p.1 id && (p.2.1 == th)

/-- a closure over two boxes that asks P of a sub -/
def AsksJ (c1 c2 : Nat) (P : TriD → Bool) (w : World) : Prop := ∀ (p : TriD) (W : World), Below w.heap.size w W → Calls Tryz.prog 147 #[tagg p, .pointer (some ⟨c1, 0, none⟩), .pointer (some ⟨c2, 0, none⟩)] W fun e w' => e = .returned (.bool (P p)) ∧ Below W.heap.size W w'
set_option maxHeartbeats 2000000 in
set_option maxRecDepth 100000 in
theorem idxs_runJ (c1 c2 : Nat) (P : TriD → Bool) (g cap n : Nat) (S : List TriD) (hm : n ≤ 1000) (w : World) (hs : Row3 187 w g cap n S) (hc : AsksJ c1 c2 P w) :
    Calls Tryz.prog 172 #[.slice (some ⟨g, 0, none⟩) n cap, .func (.func 147) #[] #[.pointer (some ⟨c1, 0, none⟩), .pointer (some ⟨c2, 0, none⟩)]] w fun e w' => e = .returned (.int .i64 (ixI P S)) ∧ Below w.heap.size w w' := by
  have HS := Lib.hid hs
  have HN := Lib.hid hs.1
  have HC := Lib.hid hc
  have hgl := hs.lt
  have hncap := hs.2.1
  have hcap := hs.2.2.1
  unfold maxLen at hcap
  unfold AsksJ at HC
  simp only [tagg, tcells] at HC
  obtain ⟨r, hr⟩ : ∃ r, ixI P S = r := ⟨_, rfl⟩
  rw [hr]
  have HR := Lib.hid hr
  clear hs hc hr
  go_enter Tryz.func172, Tryz.ntmps172
  go_wp2_with fail
  go_loopw [8] (fun iv wr => ∃ k : Nat, k ≤ n ∧ iv = .int .i64 (k : Int) ∧ (∀ j, (hj : j < S.length) → j < k → P (S[j]'hj) = false) ∧ Below w.heap.size w wr) (fun iv _ => n - (RowKit.intOf iv).toNat)
  case atStart => exact ⟨0, by omega, rfl, fun j _ h => absurd h (Nat.not_lt_zero j), Below.refl _ _⟩
  case round =>
    obtain ⟨k, hk, rfl, hne, hbl⟩ := hrel
    obtain ⟨wo, rfl⟩ : ∃ wo, wo = wr := ⟨_, rfl⟩
    have BL := Lib.hid hbl
    have NE := Lib.hid hne
    clear hbl hne
    by_cases hlt : k < n
    · have hkl : k < S.length := by rw [HN.out]; exact hlt
      obtain ⟨d0, d1, d2⟩ := (HS.out.below BL.out hgl).cells k hkl
      have hglo : g < wo.heap.size := Nat.lt_of_lt_of_le hgl BL.out.size
      generalize hpe : S[k]'hkl = p at *
      have HPE := Lib.hid hpe
      clear hpe
      go_wp2_with fail
      refine (HC.out p _ BL.out).mono ?_
      rintro e' w1 ⟨rfl, hb1⟩
      have BL1 := Lib.hid (BL.out.trans (hb1.mono BL.out.size))
      clear hb1
      cases hq : P p
      · have HNX := Lib.hid (show ∀ j, (hj : j < S.length) → j < k + 1 → P (S[j]'hj) = false from fun j hj h => by
          rcases Nat.lt_succ_iff_lt_or_eq.1 h with h | rfl
          · exact NE.out j hj h
          · rw [HPE.out]; exact hq)
        clear hq
        go_wp2
        exact ⟨⟨k + 1, by omega, by simp, HNX.out, BL1.out⟩, by simp [RowKit.intOf]; omega⟩
      · have hrk : r = (k : Int) := by
          rw [← HR.out]
          unfold ixI
          have : S.findIdx? P = some k := by
            rw [List.findIdx?_eq_some_iff_getElem]
            exact ⟨hkl, by rw [HPE.out]; exact hq, fun j hj => by rw [NE.out j (by omega) hj]; decide⟩
          rw [this]
        subst hrk
        clear hq
        go_wp2
        go_ret
        exact ⟨rfl, BL1.out⟩
    · have hrn : r = -1 := by
        rw [← HR.out]
        unfold ixI
        have : S.findIdx? P = none := by
          rw [List.findIdx?_eq_none_iff]
          intro x hx
          obtain ⟨j, hj, rfl⟩ := List.getElem_of_mem hx
          rw [NE.out j hj (by have := HN.out; omega)]
        rw [this]
      subst hrn
      go_wp2
      go_ret
      exact ⟨rfl, BL.out⟩

set_option maxHeartbeats 2000000 in
set_option maxRecDepth 100000 in
theorem idxs_nilJ (c1 c2 : Nat) (w : World) :
    Calls Tryz.prog 172 #[.slice none 0 0, .func (.func 147) #[] #[.pointer (some ⟨c1, 0, none⟩), .pointer (some ⟨c2, 0, none⟩)]] w fun e w' => e = .returned (.int .i64 (-1)) ∧ Below w.heap.size w w' := by
  go_enter Tryz.func172, Tryz.ntmps172
  go_wp2_with fail
  go_loop [8] (fun iv => iv = .int .i64 0) (fun iv => 0)
  case atStart => rfl
  case round =>
    obtain rfl := hrel
    go_wp2
    go_ret
    exact ⟨rfl, Below.refl _ _⟩
theorem idxs_anyJ (c1 c2 : Nat) (P : TriD → Bool) (sv : Value) (S : List TriD) (hm : S.length ≤ 1000) (w : World) (hs : SubsAt w sv S) (hc : AsksJ c1 c2 P w) :
    Calls Tryz.prog 172 #[sv, .func (.func 147) #[] #[.pointer (some ⟨c1, 0, none⟩), .pointer (some ⟨c2, 0, none⟩)]] w fun e w' => e = .returned (.int .i64 (ixI P S)) ∧ Below w.heap.size w w' := by
  rcases hs with ⟨rfl, rfl⟩ | ⟨g, cap, n, rfl, h⟩
  · exact idxs_nilJ c1 c2 w
  · exact idxs_runJ c1 c2 P g cap n S (by rw [← h.1]; exact hm) w h hc

set_option maxHeartbeats 2000000 in
set_option maxRecDepth 100000 in
theorem has_anyJ (c1 c2 : Nat) (P : TriD → Bool) (sv : Value) (S : List TriD) (hm : S.length ≤ 1000) (w : World) (hs : SubsAt w sv S) (hc : AsksJ c1 c2 P w) :
    Calls Tryz.prog 146 #[sv, .func (.func 147) #[] #[.pointer (some ⟨c1, 0, none⟩), .pointer (some ⟨c2, 0, none⟩)]] w fun e w' => e = .returned (.bool (decide (0 ≤ ixI P S))) ∧ Below w.heap.size w w' := by
  have HI := Lib.hid (idxs_anyJ c1 c2 P sv S hm w hs hc)
  have hn := hs.own
  obtain ⟨A, c, rfl⟩ := ownsRow_len hn
  generalize ixI P S = r at *
  clear hn hs hc
  go_enter Tryz.func146, Tryz.ntmps146
  go_wp2_with fail
  refine HI.out.mono ?_
  rintro e' w1 ⟨rfl, hb1⟩
  have B1 := Lib.hid hb1
  clear hb1
  go_wp2
  go_ret
  exact ⟨rfl, B1.out⟩
set_option maxHeartbeats 2000000 in
set_option maxRecDepth 100000 in
theorem join1_asksJ (c1 c2 : Nat) (id : ByteArray) (th : Int) (w : World) (h1 : Blk w c1 9 #[.string id]) (h2 : Blk w c2 3 #[.int .i64 th]) : AsksJ c1 c2 (isSub id th) w := by
  intro p W hW
  have x1 := (h1.below hW h1.lt).cell 0
  have x2 := (h2.below hW h2.lt).cell 0
  simp at x1 x2
  have hl1 := Nat.lt_of_lt_of_le h1.lt hW.size
  have hl2 := Nat.lt_of_lt_of_le h2.lt hW.size
  have E := Lib.hid ((Env.start W).lay (tcells p).toArray 187)
  simp only [tcells] at E
  obtain ⟨pi, pt, pb⟩ := p
  unfold isSub tagg tcells
  clear hW h1 h2
  cases hq : eqB pi id
  · have hq2 : (pi.toList == id.toList) = false := hq
    clear hq
    go_enter Tryz.func147, Tryz.ntmps147
    go_wp2
    go_ret
    exact ⟨rfl, E.out.bel⟩
  · have hq2 : (pi.toList == id.toList) = true := hq
    clear hq
    go_enter Tryz.func147, Tryz.ntmps147
    go_wp2
    go_ret
    exact ⟨rfl, E.out.bel⟩

























































































































end Go.Proofs.YthimchhnhhchkaaGreatDoor

namespace Go.Proofs.YthimchhnhhchkaaGreatDoor
open Go.RowKit Go.Lib
set_option linter.unusedSimpArgs false
set_option linter.unusedVariables false

section
variable {X : Nat → Prop} {w : World} {b pn pc : Nat} {A : Option Addr} {sv : Value} {l : List PeerT} {s : NSt}
theorem nlv_core (hb : Blk w b 167 (nodeCs s.c s.now s.seq s.drops (.slice A pn pc) sv)) (hp : Peers w w.heap.size A pn l) (hm : l.map Prod.fst = s.D) (hg : NGood s) (id : ByteArray) :
    Calls Tryz.prog 116 #[.pointer (some ⟨b, 0, none⟩), .string id] w (LvIs (s.lv id) (lvEr s.D id) w) := by
  have hn : pn ≤ 1000 := by have := hg.ps.six; have := hp.len; have e := congrArg List.length hm; rw [List.length_map] at e; omega
  have hl : l.length = s.D.length := by rw [← hm, List.length_map]
  have hget : ∀ j, (hj : j < l.length) → (s.D[j]'(by omega)) = (l[j]'hj).1 := fun j hj => by simp only [← hm, List.getElem_map]
  unfold NSt.lv lvOf lvEr
  rw [fnd_idx]
  cases hi : idxOf s.D id with
  | none =>
    have hno := idx_none hi
    exact nlv_none b pn pc A s.c s.now s.seq s.drops sv l hn id (fun j hj e => hno j (by omega) (by rw [hget j hj]; exact e)) w hb hp
  | some k =>
    obtain ⟨hk, h1, h2⟩ := idx_some hi
    have hkl : k < l.length := by omega
    have e : s.D[k]? = some (l[k]'hkl).1 := by rw [List.getElem?_eq_getElem hk, hget k hkl]
    show Calls _ _ _ _ (LvIs (match s.D[k]? with | some d => plv (cfl s.c) s.now d | none => 0) (match s.D[k]? with | some _ => 0 | none => 4) w)
    rw [e]
    exact nlv_some b pn pc A s.c s.now s.seq s.drops sv l hn id k hkl (by rw [hget k hkl] at h1; exact h1) (fun j hj hjk e => h2 j (by omega) hjk (by rw [hget j hj]; exact e))
      (by rw [← hget k hkl]; exact hg.pl _ (List.getElem_mem hk)) hg.now0 hg.now1 w hb hp
theorem nlv_any (h : NodeIs X w b A pn pc sv l s) (hg : NGood s) (id : ByteArray) :
    Calls Tryz.prog 116 #[.pointer (some ⟨b, 0, none⟩), .string id] w (LvIs (s.lv id) (lvEr s.D id) w) := nlv_core h.blk h.peers h.map hg id
/-- the answer of told -/
def TellIs (X : Nat → Prop) (b : Nat) (A : Option Addr) (pn pc : Nat) (sv : Value) (l : List PeerT) (s : NSt) (w : World) (e : Ending) (w' : World) : Prop :=
  ∃ A' c', e = .returned (.slice A' s.notes.length c') ∧ w'.ownsRow w.heap.size 146 3 (.slice A' s.notes.length c') s.notes.length (cells3 s.notes) ∧ NodeIs X w' b A pn pc sv l s.tell ∧ Kept X w w'

set_option maxHeartbeats 400000 in
set_option maxRecDepth 100000 in
theorem told_none (b : Nat) (A : Option Addr) (c : CfgD) (now seq drops : Int) (w : World) (hb : Blk w b 167 (nodeCs c now seq drops (.slice A pn pc) (.slice none 0 0))) :
    Calls Tryz.prog 141 #[.pointer (some ⟨b, 0, none⟩)] w fun e w' => e = .returned (.slice none 0 0) ∧ w = w' := by
  have HB := Lib.hid hb
  have hbl := hb.lt
  have b9 := hb.cell 9
  simp [nodeCs] at b9
  clear hb
  go_enter Tryz.func141, Tryz.ntmps141
  go_wp2_with fail
  go_loop [3, 14] (fun v iv => v = .slice none 0 0 ∧ iv = .int .i64 0) (fun _ iv => 0)
  case atStart => exact ⟨rfl, rfl⟩
  case round =>
    obtain ⟨rfl, rfl⟩ := hrel
    go_wp2
    go_ret
    exact ⟨rfl, rfl⟩
theorem told_any (h : NodeIs X w b A pn pc sv l s) (hg : NGood s) :
    Calls Tryz.prog 141 #[.pointer (some ⟨b, 0, none⟩)] w (TellIs X b A pn pc sv l s w) := by
  rcases h.subs with ⟨hsv, hS⟩ | ⟨g, cap, n, hsv, hr⟩
  · subst hsv
    refine (told_none b A s.c s.now s.seq s.drops w h.blk).mono ?_
    rintro e w' ⟨rfl, rfl⟩
    have e1 : s.notes = [] := by unfold NSt.notes; rw [hS]; rfl
    have e2 : s.tell = s := by unfold NSt.tell; rw [hS]; show ({ s with S := [] } : NSt) = s; rw [← hS]
    rw [show TellIs X b A pn pc (.slice none 0 0) l s w _ w = ∃ A' c', _ from rfl, e1, e2]
    exact ⟨none, 0, rfl, World.ownsRow_nil _ _ _ _, h, Kept.refl _ _⟩
  · subst hsv
    have hbg : b ≠ g := fun e => (h.xs g rfl).2 e.symm
    have hn : n ≤ 8 := by rw [← hr.1]; exact hg.eight
    refine (told_run b g cap n pn pc A s.c s.now s.seq s.drops s.S s.lv hn hbg w h.blk hr ?_).mono ?_
    · intro W id hk
      exact ⟨_, nlv_core (hk.blk h.blk hbg) ((hk.peers h.peers (h.far.mono fun k hy hx => hy.2.2 (by simp only [Value.ownBlock]; rw [hx]))).more hk.size) h.map hg id⟩
    · rintro e w' ⟨A', c', rfl, h1, h2, h3⟩
      exact ⟨A', c', rfl, h1, h.mark h3 h2, h3.mono fun k hk => .inl (hk ▸ (h.xs g rfl).1)⟩
end
end Go.Proofs.YthimchhnhhchkaaGreatDoor
