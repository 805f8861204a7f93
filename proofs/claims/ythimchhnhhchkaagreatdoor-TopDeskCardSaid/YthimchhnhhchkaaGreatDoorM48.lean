/- The program's town in the making: what New keeps. (with what it needs) -/
import Derived.Test.YthimchhnhhchkaaGreatDoorM43
import Derived.Test.YthimchhnhhchkaaGreatDoorM32
import Derived.Test.YthimchhnhhchkaaGreatDoorM42
import Derived.BigQuiet
import Derived.Deep.QuietTactic
import Derived.Deep.DeepCutAuto
namespace Go.Proofs.YthimchhnhhchkaaGreatDoor
open Go.RowKit Go.Lib
set_option linter.unusedSimpArgs false
set_option linter.unusedVariables false

/-! ### the settings, one by one -/
structure CkTo (l : List CfgD) (k : Nat) : Prop where
  good : ∀ c ∈ l.take k, cfgE c = 0
  same : chkIds ((l.take k).map Prod.fst) (l.drop k) = chkIds [] l
theorem CkTo.zero (l : List CfgD) : CkTo l 0 := ⟨by simp, by simp⟩
theorem CkTo.bad {l : List CfgD} {k : Nat} (h : CkTo l k) (hk : k < l.length) (he : cfgE (l[k]'hk) ≠ 0) : chkIds [] l = cfgE (l[k]'hk) := by
  rw [← h.same, List.drop_eq_getElem_cons hk]
  simp only [chkIds]
  rw [if_neg he]
theorem CkTo.twice {l : List CfgD} {k : Nat} (h : CkTo l k) (hk : k < l.length) (he : cfgE (l[k]'hk) = 0) (ht : ((l.take k).map Prod.fst).any (fun x => decide (x = (l[k]'hk).1)) = true) : chkIds [] l = 5 := by
  rw [← h.same, List.drop_eq_getElem_cons hk]
  simp only [chkIds]
  rw [if_pos he, if_pos ht]
theorem CkTo.next {l : List CfgD} {k : Nat} (h : CkTo l k) (hk : k < l.length) (he : cfgE (l[k]'hk) = 0) (ht : ((l.take k).map Prod.fst).any (fun x => decide (x = (l[k]'hk).1)) = false) : CkTo l (k + 1) := by
  refine ⟨fun c hc => ?_, ?_⟩
  · rw [List.take_succ_eq_append_getElem hk] at hc
    rcases List.mem_append.1 hc with hc | hc
    · exact h.good c hc
    · rw [List.mem_singleton.1 hc]; exact he
  · rw [← h.same, List.drop_eq_getElem_cons hk]
    simp only [chkIds]
    rw [if_pos he, if_neg (by rw [ht]; decide), List.take_succ_eq_append_getElem hk, List.map_append]
    rfl
theorem CkTo.all {l : List CfgD} (h : CkTo l l.length) : chkIds [] l = 0 := by
  rw [← h.same, List.drop_length]
  rfl
/-- the names seen, as a map tells them -/
def seenM (ids : List ByteArray) (q : Lit) : Bool := match q with | .string s => ids.any (fun x => decide (x.data.toList = s)) | _ => false
theorem bytes_eq {a b : ByteArray} : a.data.toList = b.data.toList ↔ a = b := by
  constructor
  · intro h
    apply ByteArray.ext
    exact Array.toList_inj.1 h
  · intro h
    rw [h]
theorem seenM_at (ids : List ByteArray) (c : ByteArray) : seenM ids (.string c.data.toList) = ids.any (fun x => decide (x = c)) := by
  show ids.any (fun x => decide (x.data.toList = c.data.toList)) = ids.any (fun x => decide (x = c))
  congr 1
  funext x
  exact decide_eq_decide.2 bytes_eq
theorem seenM_new (ids : List ByteArray) (c : ByteArray) : seenM (ids ++ [c]) (.string c.data.toList) = true := by
  simp [seenM]
theorem seenM_old (ids : List ByteArray) (c : ByteArray) (q : Lit) (h : q ≠ .string c.data.toList) : seenM (ids ++ [c]) q = seenM ids q := by
  unfold seenM
  cases q with
  | string s =>
    have : ¬ c.data.toList = s := fun e => h (by rw [e])
    simp [this]
  | _ => rfl
/-! ### watching -/
theorem watched_c (s : NSt) (id : ByteArray) (ev : Int) : (s.watched id ev).c = s.c := by
  unfold NSt.watched
  split <;> rfl
theorem watchAll_c : ∀ (l : List CfgD) (s : NSt), (watchAll l s).c = s.c
  | [], s => rfl
  | c :: l, s => (watchAll_c l (s.watched c.1 (cfe c))).trans (watched_c s _ _)
theorem watchAll_snoc (l : List CfgD) (k : Nat) (hk : k < l.length) (s : NSt) : watchAll (l.take (k + 1)) s = (watchAll (l.take k) s).watched (l[k]'hk).1 (cfe (l[k]'hk)) := by
  unfold watchAll
  rw [List.take_succ_eq_append_getElem hk, List.foldl_append]
  rfl
theorem watched_own (s : NSt) (ev : Int) : s.watched s.c.1 ev = s := by
  unfold NSt.watched NSt.watchE
  rw [if_pos rfl, if_neg (by decide)]
/-- the nodes while they are told of each other: the i-th has been told of k -/
def wat (l : List CfgD) (i k : Nat) (j : Nat) (c : CfgD) : NSt := if j < i then watchAll l (NSt.start c) else if j = i then watchAll (l.take k) (NSt.start c) else NSt.start c
/-! ### the town in memory -/
structure TbIs (F : Nat → Nat) (W : World) (tb : Nat) (Aa : Option Addr) (ca : Nat) (nv dv : Value) (bs : List Nat) (L : List NSt) (l : List CfgD) : Prop where
  blk : BlkC F 1 W tb 138 #[.slice Aa l.length ca, nv, dv, .slice none 0 0]
  all : ReadC F 2 W 5 l.length Aa (cellsCf l)
  nds : RowC F 3 W 140 1 bs.length nv (ptrs bs)
  ded : RowC F 4 W 4 1 l.length dv (boolsV (List.replicate l.length false))
  len : bs.length = L.length
  node : ∀ i (h : i < bs.length) (h' : i < L.length), NodeAt (fun k => F k = 10 + i) W (bs[i]'h) (L[i]'h')
section
variable {w W W' w2 w3 w4 : World} {F F' : Nat → Nat} {P : Nat → Prop} {tb ca b : Nat} {Aa : Option Addr} {nv dv nv' : Value} {bs : List Nat} {L : List NSt} {l : List CfgD}
theorem TbIs.other (h : TbIs F W tb Aa ca nv dv bs L l) (hC : Col w W F) (m : Moved P F W F' W') (hP : ∀ c, P c → ¬ ((1 ≤ c ∧ c ≤ 5) ∨ (10 ≤ c ∧ c < 10 + bs.length))) : TbIs F' W' tb Aa ca nv dv bs L l := by
  have hn : ∀ c, ((1 ≤ c ∧ c ≤ 5) ∨ (10 ≤ c ∧ c < 10 + bs.length)) → ¬ P c := fun c h1 h2 => hP c h2 h1
  exact ⟨m.blk hC (by omega) (hn 1 (.inl (by omega))) h.blk, m.read hC (by omega) (hn 2 (.inl (by omega))) h.all, m.row hC (by omega) (hn 3 (.inl (by omega))) h.nds, m.row hC (by omega) (hn 4 (.inl (by omega))) h.ded, h.len,
    fun i hi hi' => m.hold hC (by omega) (hn (10 + i) (.inr (by omega))) (h.node i hi hi')⟩
theorem TbIs.below (h : TbIs F W tb Aa ca nv dv bs L l) (hC : Col w W F) (hb : Below W.heap.size W W') : TbIs F W' tb Aa ca nv dv bs L l :=
  h.other hC (.below (P := fun _ => False) hC hb) (fun _ h => h.elim)
theorem TbIs.cells (h : TbIs F W tb Aa ca nv dv bs L l) : tb < W.heap.size ∧ W.cell? ⟨tb, 1, none⟩ = some nv :=
  ⟨h.blk.1.lt, h.blk.1.cell 1⟩
/-- a call of one node -/
theorem TbIs.turn {i : Nat} {s1 : NSt} (h : TbIs F W tb Aa ca nv dv bs L l) (hC : Col w W F) (hi : i < L.length) (hk : Kept (fun k => F k = 10 + i) W W') (hn : NodeAt (grow (fun k => F k = 10 + i) W W') W' (bs[i]'(by rw [h.len]; exact hi)) s1) :
    TbIs (paint F W W' (10 + i)) W' tb Aa ca nv dv bs (L.set i s1) l := by
  have m := Moved.paint hC hk
  refine ⟨m.blk hC (by omega) (by omega) h.blk, m.read hC (by omega) (by omega) h.all, m.row hC (by omega) (by omega) h.nds, m.row hC (by omega) (by omega) h.ded, by simpa using h.len, fun j hj hj' => ?_⟩
  by_cases e : j = i
  · subst e
    have : NodeAt (fun k => paint F W W' (10 + j) k = 10 + j) W' (bs[j]'hj) s1 := hC.held hk (by omega) hn
    simpa using this
  · have hj2 : j < L.length := by simpa using hj'
    have : NodeAt (fun k => paint F W W' (10 + i) k = 10 + j) W' (bs[j]'hj) (L[j]'hj2) := m.hold hC (c' := 10 + j) (by omega) (by omega) (h.node j hj hj2)
    simpa [List.getElem_set, Ne.symm e] using this
/-- a new node -/
theorem TbIs.born {c : CfgD} (h : TbIs F W tb Aa ca nv dv bs L l) (hC : Col w W F) (hb : W.heap.size ≤ b) (hn : NodeAt (· = b) w2 b (NSt.start c)) (hbl : Below W.heap.size W w2) :
    TbIs (paint F W w2 (10 + bs.length)) w2 tb Aa ca nv dv bs L l ∧ NodeAt (fun k => paint F W w2 (10 + bs.length) k = 10 + bs.length) w2 b (NSt.start c) ∧ Col w w2 (paint F W w2 (10 + bs.length)) ∧ Moved (fun x => x = 10 + bs.length) F W (paint F W w2 (10 + bs.length)) w2 := by
  have k2 : Kept (fun k => F k = 10 + bs.length) W w2 := .of_below hbl
  have m := Moved.paint hC k2
  have c2 := hC.paint (by omega) k2
  have hlt := NodeAt.xlt hn b rfl
  exact ⟨h.other hC m (fun c hc => by omega), HoldAt.wide hn (fun k e => by rw [e]; exact paint_new hb hlt) (fun k e => c2.hi k (by rw [e]; omega)), c2, m⟩
/-- .. put behind the others -/
theorem TbIs.push {s : NSt} (h : TbIs F W tb Aa ca nv dv bs L l) (hC : Col w W F) (hbs : bs.length < 10) (hn : NodeAt (fun k => F k = 10 + bs.length) W b s) (hb3 : Below W.heap.size W w3)
    (ho : w4.ownsRow 0 140 1 nv' (bs.length + 1) (ptrs bs ++ ptrs [b])) (hg : w3.grownBy w4 nv.ownBlock) (hx : nv'.ownBlock = nv.ownBlock ∨ nv'.ownBlock = some w3.heap.size) :
    ∃ F', Col w (w4.setCell ⟨tb, 1, none⟩ nv') F' ∧ Moved (fun c => c = 1 ∨ c = 3) F W F' (w4.setCell ⟨tb, 1, none⟩ nv') ∧ TbIs F' (w4.setCell ⟨tb, 1, none⟩ nv') tb Aa ca nv' dv (bs ++ [b]) (L ++ [s]) l := by
  have m0 : Moved (fun c => c = 3) F W F w3 := Moved.below hC hb3
  have hC3 := hC.below hb3
  have hnF : ∀ x, nv.ownBlock = some x → F x = 3 := h.nds.2
  have k4 : Kept (fun x => F x = 3) w3 w4 := (Kept.refl _ _).grown hg (fun x e => .inl (hnF x e))
  have m4 := Moved.paint hC3 k4
  have c4 := hC3.paint (by decide) k4
  have m : Moved (fun c => c = 3) F W (paint F w3 w4 3) w4 := m0.trans m4
  have hrow : RowC (paint F w3 w4 3) 3 w4 140 1 (bs.length + 1) nv' (ptrs bs ++ ptrs [b]) := ⟨ho, fun x e => by
    have hl := (ho.lt x e).2
    rcases hx with e2 | e2
    · rw [e2] at e
      exact paint_keep (hnF x e)
    · rw [e2] at e
      injection e with e
      exact paint_new (by omega) hl⟩
  have hb1 := m.blk hC (c' := 1) (by decide) (by decide) h.blk
  have hkp : Kept (fun k => paint F w3 w4 3 k = 1) w4 (w4.setCell ⟨tb, 1, none⟩ nv') := (Kept.refl (fun k => paint F w3 w4 3 k = 1) _).setCell (a := ⟨tb, 1, none⟩) (.inl hb1.2) _
  have hsz : (w4.setCell ⟨tb, 1, none⟩ nv').heap.size = w4.heap.size := by simp [World.setCell]
  have m2 : Moved (fun x => x = 1) (paint F w3 w4 3) w4 (paint F w3 w4 3) (w4.setCell ⟨tb, 1, none⟩ nv') := ⟨hkp, fun _ _ => rfl, fun k hl h0 => by have := c4.hi k h0; omega⟩
  have hap : ptrs (bs ++ [b]) = ptrs bs ++ ptrs [b] := by unfold ptrs; rw [List.map_append]
  refine ⟨_, ⟨c4.lo, fun k hk => by rw [hsz]; exact c4.hi k hk, c4.bel.trans (hkp.below (fun k e => c4.lo k (by rw [e]; decide)) c4.bel.size)⟩, (m.mono (fun c hc => .inr hc)).trans (m2.mono (fun c hc => .inl hc)), ⟨hb1.1.set_ 1 nv', hb1.2⟩, m2.read c4 (by decide) (by decide) (m.read hC (by decide) (by decide) h.all), ?_, m2.row c4 (by decide) (by decide) (m.row hC (by decide) (by decide) h.ded), by simp [h.len], fun i hi hi' => ?_⟩
  · rw [hap, List.length_append]
    exact m2.row c4 (by decide) (by decide) hrow
  · by_cases e : i < bs.length
    · have hi2 : i < L.length := by rw [← h.len]; exact e
      have : NodeAt (fun k => paint F w3 w4 3 k = 10 + i) (w4.setCell ⟨tb, 1, none⟩ nv') (bs[i]'e) (L[i]'hi2) := m2.hold c4 (by omega) (by omega) (m.hold hC (c' := 10 + i) (by omega) (by omega) (h.node i e hi2))
      simpa [List.getElem_append_left, e, hi2] using this
    · have hi3 : i = bs.length := by simp at hi; omega
      subst hi3
      have : NodeAt (fun k => paint F w3 w4 3 k = 10 + bs.length) (w4.setCell ⟨tb, 1, none⟩ nv') b s := m2.hold c4 (by omega) (by omega) (m.hold hC (c' := 10 + bs.length) (by omega) (by omega) hn)
      simpa [h.len] using this
/-- the town, when it is made -/
theorem TbIs.done (h : TbIs F W tb Aa ca nv dv bs L l) (hL : L.length = l.length) (ha : ∀ j (hj : j < L.length) (hj' : j < l.length), L[j]'hj = watchAll l (NSt.start (l[j]'hj'))) : TownIs F W tb Aa ca nv dv (.slice none 0 0) bs (TSt.start l) := by
  have e1 : (TSt.start l).L.length = l.length := by simp [TSt.start]
  have e2 : (TSt.start l).L.map (fun p => p.1.c) = l := by
    simp only [TSt.start, List.map_map]
    apply List.ext_getElem (by simp)
    intro j h1 h2
    simp only [List.getElem_map, Function.comp]
    rw [watchAll_c]
    rfl
  have e3 : (TSt.start l).L.map Prod.snd = List.replicate l.length false := by
    simp only [TSt.start, List.map_map]
    apply List.ext_getElem (by simp)
    intro j h1 h2
    simp
  refine ⟨by rw [e1]; exact h.blk, by rw [e1, e2]; exact h.all, by rw [e1, ← hL, ← h.len]; exact h.nds, by rw [e1, e3]; exact h.ded, ⟨World.ownsRow_nil _ _ _ _, fun k hk => by cases hk⟩, by rw [e1, h.len, hL], fun i hi hi' => ?_⟩
  have hi2 : i < L.length := by rw [← h.len]; exact hi
  have hi3 : i < l.length := by rw [← hL]; exact hi2
  have := h.node i hi hi2
  rw [ha i hi2 hi3] at this
  simpa [TSt.start] using this
end
end Go.Proofs.YthimchhnhhchkaaGreatDoor

namespace Go.Proofs.YthimchhnhhchkaaGreatDoor
open Go.RowKit Go.Lib
set_option linter.unusedSimpArgs false
set_option linter.unusedVariables false

theorem Below.alB {w W : World} {o : Obj} (h : Below w.heap.size w W) : Below w.heap.size w (W.alloc o) := h.alloc h.size _
def TStart (w : World) (l : List CfgD) (s4 : Value) (wx : World) : Prop := ∃ F tb Aa ca dv, s4 = .pointer (some ⟨tb, 0, none⟩) ∧ Col w wx F ∧ Moved ProgC (fun _ => 0) w F wx ∧ TbIs F wx tb Aa ca (.slice none 0 0) dv [] [] l
theorem boolsV_made (n : Nat) : (madeCells #[Value.bool false] n).toList = boolsV (List.replicate n false) := by
  rw [toList_madeCells_one]
  simp [boolsV]
theorem tb_first {w wx : World} {l : List CfgD} {tb gd ca n : Nat} {Aa : Option Addr} (hl : l.length = n) (hn : n ≤ maxLen) (hb : Below w.heap.size w wx) (htb : w.heap.size ≤ tb) (blk : Blk wx tb 138 #[.slice Aa n ca, .slice none 0 0, .slice (some ⟨gd, 0, none⟩) n n, .slice none 0 0])
    (hall : wx.ownsRow w.heap.size 100 5 (.slice Aa n ca) n (cellsCf l)) (hgd : w.heap.size ≤ gd) (hded : Blk wx gd 4 (madeCells #[.bool false] n)) (hne : gd ≠ tb) (hga : ∀ k, (Value.slice Aa n ca).ownBlock = some k → k ≠ tb ∧ k ≠ gd) :
    TStart w l (.pointer (some ⟨tb, 0, none⟩)) wx := by
  subst hl
  refine ⟨fun k => if k = tb then 1 else if k = gd then 4 else if w.heap.size ≤ k ∧ k < wx.heap.size then 2 else 0, tb, Aa, ca, _, rfl, ⟨fun k hk => ?_, fun k hk => ?_, hb⟩, ⟨.of_below hb, fun k hk => ?_, fun k hk h0 => ?_⟩, ⟨blk, if_pos rfl⟩, ⟨Reads.of_own hall, fun hp a ha => ?_⟩, ⟨World.ownsRow_nil _ _ _ _, fun k hk => by cases hk⟩, ⟨⟨by simp [boolsV], .inr ⟨gd, l.length, _, rfl, Nat.zero_le _, hded, Nat.le_refl _, hn, by rw [← Array.length_toList, boolsV_made]; simp [boolsV], by rw [boolsV_made]; simp [boolsV]⟩⟩, fun k hk => ?_⟩, rfl, fun i hi => by simp at hi⟩
  · try dsimp only at hk
    split at hk
    · next e => omega
    · split at hk
      · next e => omega
      · split at hk
        · next e => exact e.1
        · exact absurd rfl hk
  · try dsimp only at hk
    split at hk
    · next e => rw [e]; exact blk.lt
    · split at hk
      · next e => rw [e]; exact hded.lt
      · split at hk
        · next e => exact e.2
        · exact absurd rfl hk
  · try dsimp only
    rw [if_neg (by omega), if_neg (by omega), if_neg (by omega)]
  · try dsimp only
    unfold ProgC
    split
    · omega
    · split
      · omega
      · split
        · omega
        · next e1 e2 e3 => exact absurd (by rw [if_neg e1, if_neg e2, if_neg e3]) h0
  · obtain ⟨g, c, e, h1, h2, _⟩ := ownsRow_at hall hp
    simp only [Value.slice.injEq] at e
    obtain ⟨rfl, -, -⟩ := e
    injection ha with ha
    subst ha
    obtain ⟨q1, q2⟩ := hga g rfl
    try dsimp only
    rw [if_neg q1, if_neg q2, if_pos ⟨h1, h2⟩]
  · injection hk with hk
    subst hk
    try dsimp only
    rw [if_neg hne, if_pos rfl]
theorem blk_nw (w : World) (o : Obj) (t : TypeId) (cs : Array Value) : Blk ((w.alloc o).alloc (.cells cs t)) (w.heap.size + 1) t cs := by
  have e : w.heap.size + 1 = (w.alloc o).heap.size := by simp
  rw [e]; exact Blk.new _ _ _
/-- the clone first -/
theorem tb_A {w wa w1 : World} {l : List CfgD} {n c1 : Nat} {A1 : Option Addr} (hl : l.length = n) (hn : n ≤ maxLen) (ha : Below w.heap.size w wa) (ho : w1.ownsRow wa.heap.size 100 5 (.slice A1 n c1) n (cellsCf l)) (hb1 : Below wa.heap.size wa w1) :
    TStart w l (.pointer (some ⟨w1.heap.size + 1, 0, none⟩)) ((w1.alloc (.cells (madeCells #[.bool false] n) 4)).alloc (.cells #[.slice A1 n c1, .slice none 0 0, .slice (some ⟨w1.heap.size, 0, none⟩) n n, .slice none 0 0] 138)) := by
  have h1 := Below.thru5 ha hb1
  exact tb_first hl hn (Below.alB (Below.alB h1)) (by have := h1.size; omega) (blk_nw _ _ _ _) (((own_mono ho ha.size).alloc _).alloc _) h1.size ((Blk.new _ _ _).alloc _) (by omega) (fun k hk => by have := (ho.lt k hk).2; omega)
/-- the marks first -/
theorem tb_B {w w1 : World} {l : List CfgD} {n c1 : Nat} {A1 : Option Addr} (hl : l.length = n) (hn : n ≤ maxLen) (ho : w1.ownsRow (w.alloc (.cells (madeCells #[.bool false] n) 4)).heap.size 100 5 (.slice A1 n c1) n (cellsCf l)) (hb0 : Below (w.alloc (.cells (madeCells #[.bool false] n) 4)).drew.heap.size (w.alloc (.cells (madeCells #[.bool false] n) 4)).drew w1) :
    TStart w l (.pointer (some ⟨w1.heap.size, 0, none⟩)) (w1.alloc (.cells #[.slice A1 n c1, .slice none 0 0, .slice (some ⟨w.heap.size, 0, none⟩) n n, .slice none 0 0] 138)) := by
  have h0 : Below w.heap.size w (w.alloc (.cells (madeCells #[.bool false] n) 4)) := Below.alB (Below.refl _ _)
  have hb1 : Below (w.alloc (.cells (madeCells #[.bool false] n) 4)).heap.size (w.alloc (.cells (madeCells #[.bool false] n) 4)) w1 := ⟨hb0.os, hb0.tape, hb0.output, hb0.size, hb0.block⟩
  have h1 := Below.thru5 h0 hb1
  have hs := hb1.size
  simp at hs
  exact tb_first hl hn (Below.alB h1) h1.size (Blk.new _ _ _) ((own_mono ho h0.size).alloc _) (Nat.le_refl _) (((Blk.new _ _ _).below hb1 (by simp)).alloc _) (by omega) (fun k hk => by have := ho.lt k hk; simp at this; omega)
def TnewIs (w : World) (l : List CfgD) (e : Ending) (W' : World) : Prop := (newTE l = 0 ∧ ∃ tb, e = .returned (.tuple #[.pointer (some ⟨tb, 0, none⟩), .int .i64 0]) ∧ TwTo w (fun _ => 0) w tb (TSt.start l) W') ∨ (newTE l ≠ 0 ∧ e = .returned (.tuple #[.pointer none, .int .i64 (newTE l)]) ∧ Below w.heap.size w W')
set_option maxHeartbeats 400000 in
set_option maxRecDepth 100000 in
theorem tnew_large (A : Option Addr) (c n : Nat) (h : 5 < n) (w : World) :
    Calls Tryz.prog 69 #[.slice A n c] w fun e w' => e = .returned (.tuple #[.pointer none, .int .i64 2]) ∧ w = w' := by
  go_enter Tryz.func69, Tryz.ntmps69
  go_wp2
  go_ret2
  exact ⟨rfl, rfl⟩
theorem wpList_lookup_is {P : Program} (w : World) {ops : Array Oper} {rest : List Oper} {o : Oper} {a : Act} {Q : Exit → Act → World → Prop} (hg : o.guard = none) (mm x : Operand) (t : TypeId) (hop : o.op = Op.lookup t mm x false)
    (k e : TypeId) (K : Go.Maps.Keyed P k) (ht : P.underlying t = some (.map k e)) (he : P.underlying e = some .bool) (hz : (zeroValue e).run P w = .ok (.bool false) w) (b n : Nat) (m : Lit → Bool)
    (hm : a.eval mm = .map (some b)) (hown : MarkMap P k e w b n m) (key : Value) (kl : Lit) (hx : a.eval x = key) (hkey : keyOf P k key = some kl) (y : Bool) (hy : m kl = y)
    (hK : wpList P ops Q rest (a.put o.dst (.bool y)) w) :
    wpList P ops Q (o :: rest) a w := by
  subst hy
  exact wpList_lookup_mark w hg mm x t hop k e K ht he hz b n m hm hown key kl hx hkey hK
theorem oneCell_Cf (l : List CfgD) : ∀ u ∈ cellsCf l, u.oneCell' = true := by
  induction l with
  | nil => intro u hu; cases hu
  | cons c l ih =>
    intro u hu
    rcases List.mem_append.1 hu with hu | hu
    · simp only [ccells, List.mem_cons, List.not_mem_nil, or_false] at hu
      rcases hu with rfl | rfl | rfl | rfl | rfl <;> rfl
    · exact ih u hu
theorem one_ptr {a : Option Addr} : ∀ u ∈ [Value.pointer a], u.oneCell' = true := by
  intro u hu
  rw [List.mem_singleton.1 hu]
  rfl
theorem cfg_addr {w : World} {B n : Nat} {A : Option Addr} {l : List CfgD} (h : Reads w B 5 A n (cellsCf l)) (hl : l.length = n) (hn : 0 < n) :
    ∃ b off, A = some ⟨b, off, none⟩ ∧ b < B ∧ ∀ k, (hk : k < l.length) → w.cell? ⟨b, off + k * 5, none⟩ = some (.string (l[k]'hk).1) ∧ w.cell? ⟨b, off + k * 5 + 1, none⟩ = some (.int .i64 (cfi (l[k]'hk))) ∧ w.cell? ⟨b, off + k * 5 + 2, none⟩ = some (.int .i64 (cfe (l[k]'hk))) ∧ w.cell? ⟨b, off + k * 5 + 3, none⟩ = some (.int .i64 (cfc (l[k]'hk))) ∧ w.cell? ⟨b, off + k * 5 + 4, none⟩ = some (.int .i64 (cfl (l[k]'hk))) := by
  obtain ⟨b, off, e, hb, hc⟩ := h.addrN hn (by decide)
  refine ⟨b, off, e, hb, fun k hk => ?_⟩
  have at' : ∀ j v, j < 5 → (ccells (l[k]'hk))[j]? = some v → w.cell? ⟨b, off + k * 5 + j, none⟩ = some v := fun j v hj hv => by
    rw [Nat.add_assoc]
    exact hc _ _ ((cellsCf_at l k j hk hj).trans hv)
  exact ⟨at' 0 _ (by decide) rfl, at' 1 _ (by decide) rfl, at' 2 _ (by decide) rfl, at' 3 _ (by decide) rfl, at' 4 _ (by decide) rfl⟩
theorem reads_one (w : World) (e : TypeId) (v : Value) : Reads (w.alloc (.cells #[v] e)) (w.heap.size + 1) 1 (some ⟨w.heap.size, 0, none⟩) 1 [v] :=
  ⟨rfl, fun _ => ⟨_, rfl, by simp, fun j u hj => by
    have hc := (Blk.new w e #[v]).cell j
    have hadd : (⟨w.heap.size, 0, none⟩ : Addr).add j = ⟨w.heap.size, j, none⟩ := by unfold Addr.add; split <;> simp_all
    rw [hadd, hc, ← hj]
    simp⟩⟩
theorem Moved.grown {w W W' : World} {F : Nat → Nat} {mb c : Nat} (hC : Col w W F) (hg : W.grownBy W' (some mb)) (hF : F mb = c) (hc : c ≠ 0) : Moved (fun x => x = c) F W F W' ∧ Col w W' F := by
  have hk : Kept (fun k => F k = c) W W' := (Kept.refl _ _).grown hg (fun k e => by injection e with e; exact .inl (e ▸ hF))
  exact ⟨⟨hk, fun _ _ => rfl, fun k hl h0 => by have := hC.hi k h0; omega⟩, hC.lo, fun k h => Nat.lt_of_lt_of_le (hC.hi k h) hg.size, hC.bel.trans (hk.below (fun k e => hC.lo k (by rw [e]; exact hc)) hC.bel.size)⟩
theorem ptr_info : (Tryz.prog.info? 140).map (fun i => (i.zero, i.size, i.bytes)) = some (some (.pointer none), 1, 8) := by kernel_rfl
theorem zero_bool (w : World) : (zeroValue 4).run Tryz.prog w = .ok (.bool false) w := by kernel_rfl
theorem new_noT (s : ByteArray) (i v k l : Int) (hs : s.size ≤ maxLen) (e0 : Int) (he : cfgE (s, i, v, k, l) = e0) (hz : e0 ≠ 0) (w : World) :
    Calls Tryz.prog 109 #[.agg #[.string s, .int .i64 i, .int .i64 v, .int .i64 k, .int .i64 l]] w fun e w' => e = .returned (.tuple #[.pointer none, .int .i64 e0]) ∧ Below w.heap.size w w' := new_no (s, i, v, k, l) hs e0 he hz w
theorem new_okT (s : ByteArray) (i v k l : Int) (he : cfgE (s, i, v, k, l) = 0) (w : World) :
    Calls Tryz.prog 109 #[.agg #[.string s, .int .i64 i, .int .i64 v, .int .i64 k, .int .i64 l]] w (NewIs (s, i, v, k, l) w) := new_ok (s, i, v, k, l) he w
def newTE' (l : List CfgD) : Int := chkIds [] l
/-- behind k settings -/
def L1Rel (w : World) (l : List CfgD) (tb : Nat) (Aa : Option Addr) (ca : Nat) (dv : Value) (mb k : Nat) (wr : World) : Prop :=
  ∃ F nv bs, CkTo l k ∧ Col w wr F ∧ Moved ProgC (fun _ => 0) w F wr ∧ TbIs F wr tb Aa ca nv dv bs ((l.take k).map NSt.start) l ∧ MarkMap Tryz.prog 9 4 wr mb k (seenM ((l.take k).map Prod.fst)) ∧ F mb = 18
/-- the i-th node has been told of k -/
def L3Rel (w : World) (l : List CfgD) (tb : Nat) (Aa : Option Addr) (ca : Nat) (nv dv : Value) (bs : List Nat) (i k : Nat) (wr : World) : Prop :=
  ∃ F L, Col w wr F ∧ Moved ProgC (fun _ => 0) w F wr ∧ TbIs F wr tb Aa ca nv dv bs L l ∧ L.length = l.length ∧ ∀ j (hj : j < L.length) (hj' : j < l.length), L[j]'hj = wat l i k j (l[j]'hj')
section
variable {w W wr w1 w2 w3 w4 : World} {l : List CfgD} {tb ca mb i k b : Nat} {Aa : Option Addr} {nv dv : Value} {bs : List Nat}
theorem L1Rel.start {F : Nat → Nat} (hC : Col w W F) (hM : Moved ProgC (fun _ => 0) w F W) (hT : TbIs F W tb Aa ca (.slice none 0 0) dv [] [] l) : L1Rel w l tb Aa ca dv W.heap.size 0 (W.alloc (.map #[] 0)) := by
  have hb : Below W.heap.size W (W.alloc (.map #[] 0)) := Below.alB (Below.refl _ _)
  have hk : Kept (fun k => F k = 18) W (W.alloc (.map #[] 0)) := .of_below hb
  have m := Moved.paint hC hk
  have e : seenM (([] : List CfgD).map Prod.fst) = fun _ => false := by funext q; cases q <;> rfl
  refine ⟨paint F W (W.alloc (.map #[] 0)) 18, _, [], CkTo.zero l, hC.paint (by decide) hk, hM.trans (m.mono (fun c hc => .inr (by omega))), hT.other hC m (fun c hc => by simp; omega), ?_, paint_new (Nat.le_refl _) (by simp)⟩
  rw [List.take_zero, e]
  exact MarkMap.made W
theorem L1Rel.below (h : L1Rel w l tb Aa ca dv mb k wr) (hb : Below wr.heap.size wr w1) : L1Rel w l tb Aa ca dv mb k w1 := by
  obtain ⟨F, nv, bs, h1, h2, h3, h4, h5, h6⟩ := h
  exact ⟨F, nv, bs, h1, h2.below hb, h3.trans (.below h2 hb), h4.below h2 hb, h5.below hb, h6⟩
theorem L1Rel.next {cc : CfgD} {F : Nat → Nat} {w3a : World} {nv' : Value} (CK : CkTo l (k + 1)) (hTk : l.take (k + 1) = l.take k ++ [cc]) (hC : Col w w3 F) (hM : Moved ProgC (fun _ => 0) w F w3) (hT : TbIs F w3 tb Aa ca nv dv bs ((l.take k).map NSt.start) l) (hN : NodeAt (fun k => F k = 10 + bs.length) w3 b (NSt.start cc))
    (hMM : MarkMap Tryz.prog 9 4 w3 mb (k + 1) (seenM ((l.take k).map Prod.fst ++ [cc.1]))) (hmF : F mb = 18) (hbs : bs.length < 10) (hb3 : Below w3.heap.size w3 w3a)
    (ho : w4.ownsRow 0 140 1 nv' (bs.length + 1) (ptrs bs ++ ptrs [b])) (hg : w3a.grownBy w4 nv.ownBlock) (hx : nv'.ownBlock = nv.ownBlock ∨ nv'.ownBlock = some w3a.heap.size) : L1Rel w l tb Aa ca dv mb (k + 1) (w4.setCell ⟨tb, 1, none⟩ nv') := by
  obtain ⟨F', p1, p2, p3⟩ := hT.push hC hbs hN hb3 ho hg hx
  refine ⟨F', nv', bs ++ [b], CK, p1, hM.trans (p2.mono (fun c hc => by unfold ProgC; omega)), ?_, ?_, ?_⟩
  · rw [hTk, List.map_append]; exact p3
  · rw [hTk, List.map_append]
    exact hMM.kept p2.kept (fun e => by have e : F mb = 1 ∨ F mb = 3 := e; omega)
  · rw [p2.old mb hMM.lt]; exact hmF
theorem TbIs.four {F : Nat → Nat} {L : List NSt} {w3a : World} (hT : TbIs F w3 tb Aa ca nv dv bs L l) (hb3 : Below w3.heap.size w3 w3a) (hg : w3a.grownBy w4 nv.ownBlock) : Blk w4 tb 138 #[.slice Aa l.length ca, nv, dv, .slice none 0 0] := by
  have k4 : Kept (fun x => nv.ownBlock = some x) w3a w4 := (Kept.refl _ _).grown hg (fun x e => .inl e)
  exact k4.blk ((Kept.of_below (X := fun _ => False) hb3).blk hT.blk.1 (fun h => h)) (fun hx => by have := hT.nds.2 tb hx; have := hT.blk.2; omega)
theorem L3Rel.bel (h : L3Rel w l tb Aa ca nv dv bs i k wr) : Below w.heap.size w wr := by
  obtain ⟨F, L, h1, _⟩ := h
  exact h1.bel
theorem L3Rel.below (h : L3Rel w l tb Aa ca nv dv bs i k wr) (hb : Below wr.heap.size wr w1) : L3Rel w l tb Aa ca nv dv bs i k w1 := by
  obtain ⟨F, L, h2, h3, h4, h5⟩ := h
  exact ⟨F, L, h2.below hb, h3.trans (.below h2 hb), h4.below h2 hb, h5⟩
theorem wat_zero (j : Nat) (c : CfgD) : wat l 0 0 j c = NSt.start c := by
  unfold wat
  rw [if_neg (by omega)]
  split
  · rw [List.take_zero]; rfl
  · rfl
theorem wat_next (j : Nat) (c : CfgD) : wat l i l.length j c = wat l (i + 1) 0 j c := by
  unfold wat
  rw [List.take_length, List.take_zero]
  by_cases h1 : j < i
  · rw [if_pos h1, if_pos (by omega)]
  · rw [if_neg h1]
    by_cases h2 : j = i
    · rw [if_pos h2, if_pos (by omega)]
    · rw [if_neg h2, if_neg (by omega)]
      split
      · rfl
      · rfl
theorem L1Rel.fin (h : L1Rel w l tb Aa ca dv mb l.length wr) : ∃ nv bs, newTE' l = 0 ∧ bs.length = l.length ∧ (∀ c ∈ l, cfgE c = 0) ∧ L3Rel w l tb Aa ca nv dv bs 0 0 wr ∧ ∃ F, RowC F 3 wr 140 1 bs.length nv (ptrs bs) := by
  obtain ⟨F, nv, bs, h1, h2, h3, h4, h5, h6⟩ := h
  have hlen : bs.length = l.length := by rw [h4.len]; simp
  refine ⟨nv, bs, h1.all, hlen, fun c hc => h1.good c (by rw [List.take_length]; exact hc), ⟨F, _, h2, h3, h4, by simp, fun j hj hj' => ?_⟩, F, h4.nds⟩
  rw [wat_zero]
  simp
theorem L3Rel.outer (h : L3Rel w l tb Aa ca nv dv bs i l.length wr) : L3Rel w l tb Aa ca nv dv bs (i + 1) 0 wr := by
  obtain ⟨F, L, h2, h3, h4, h5, h6⟩ := h
  exact ⟨F, L, h2, h3, h4, h5, fun j hj hj' => by rw [h6 j hj hj', wat_next]⟩
theorem L3Rel.own (h : L3Rel w l tb Aa ca nv dv bs i i wr) (hi : i < l.length) : L3Rel w l tb Aa ca nv dv bs i (i + 1) wr := by
  obtain ⟨F, L, h2, h3, h4, h5, h6⟩ := h
  refine ⟨F, L, h2, h3, h4, h5, fun j hj hj' => ?_⟩
  rw [h6 j hj hj']
  unfold wat
  by_cases h1 : j < i
  · rw [if_pos h1, if_pos h1]
  · rw [if_neg h1, if_neg h1]
    by_cases e : j = i
    · subst e
      rw [if_pos rfl, if_pos rfl, watchAll_snoc l j hi]
      have hc : (watchAll (l.take j) (NSt.start (l[j]'hi))).c = l[j]'hi := (watchAll_c _ _).trans rfl
      have := watched_own (watchAll (l.take j) (NSt.start (l[j]'hi))) (cfe (l[j]'hi))
      rw [hc] at this
      exact this.symm
    · rw [if_neg e, if_neg e]
theorem L3Rel.told {F : Nat → Nat} {L : List NSt} (hC : Col w W F) (hM : Moved ProgC (fun _ => 0) w F W) (hT : TbIs F W tb Aa ca nv dv bs L l) (hL : L.length = l.length) (ha : ∀ j (hj : j < L.length) (hj' : j < l.length), L[j]'hj = wat l i k j (l[j]'hj')) (hi : i < l.length) (hk : k < l.length) (h5 : l.length ≤ 5)
    (hkp : Kept (fun x => F x = 10 + i) W wr) (hn : NodeAt (grow (fun x => F x = 10 + i) W wr) wr (bs[i]'(by rw [hT.len, hL]; exact hi)) ((L[i]'(by rw [hL]; exact hi)).watched (l[k]'hk).1 (cfe (l[k]'hk)))) : L3Rel w l tb Aa ca nv dv bs i (k + 1) wr := by
  have hiL : i < L.length := by rw [hL]; exact hi
  refine ⟨paint F W wr (10 + i), L.set i _, hC.paint (by omega) hkp, hM.trans ((Moved.paint hC hkp).mono (fun c hc => by unfold ProgC; omega)), hT.turn hC hiL hkp hn, by simpa using hL, fun j hj hj' => ?_⟩
  have hjL : j < L.length := by simpa using hj
  simp only [List.getElem_set]
  by_cases e : i = j
  · subst e
    rw [if_pos rfl, ha i hiL hi]
    unfold wat
    rw [if_neg (by omega), if_pos rfl, if_neg (by omega), if_pos rfl, watchAll_snoc l k hk]
  · rw [if_neg e, ha j hjL hj']
    unfold wat
    by_cases h1 : j < i
    · rw [if_pos h1, if_pos h1]
    · rw [if_neg h1, if_neg h1, if_neg (fun h => e h.symm), if_neg (fun h => e h.symm)]
theorem L3Rel.cell1 (h : L3Rel w l tb Aa ca nv dv bs i k wr) : tb < wr.heap.size ∧ wr.cell? ⟨tb, 1, none⟩ = some nv := by
  obtain ⟨F, L, h2, h3, h4, _⟩ := h
  exact h4.cells
theorem L3Rel.ptr (h : L3Rel w l tb Aa ca nv dv bs i k wr) (hi : i < bs.length) : ∃ gn cn, nv = .slice (some ⟨gn, 0, none⟩) bs.length cn ∧ bs.length ≤ cn ∧ cn ≤ maxLen ∧ gn < wr.heap.size ∧ wr.cell? ⟨gn, i, none⟩ = some (.pointer (some ⟨bs[i]'hi, 0, none⟩)) := by
  obtain ⟨F, L, h2, h3, h4, h5, h6⟩ := h
  obtain ⟨gn, cn, rfl, -, hgn, h1, h2, hc⟩ := ownsRow_at h4.nds.1 (by omega)
  exact ⟨gn, cn, rfl, h1, h2, hgn, hc i _ (by simp [ptrs, hi])⟩
theorem L3Rel.node (h : L3Rel w l tb Aa ca nv dv bs i k wr) (hbs : bs.length = l.length) (h5 : l.length ≤ 5) (hgo : ∀ c ∈ l, cfgE c = 0) (hi : i < bs.length) (hk : k < l.length) (hid : (l[k]'hk).1.size ≤ maxLen) :
    Calls Tryz.prog 110 #[.pointer (some ⟨bs[i]'hi, 0, none⟩), .string (l[k]'hk).1, .int .i64 (cfe (l[k]'hk))] wr fun e W' => (∃ er, e = .returned (.int .i64 er)) ∧ L3Rel w l tb Aa ca nv dv bs i (k + 1) W' := by
  obtain ⟨F, L, h2, h3, h4, h6, h7⟩ := h
  have hiL : i < L.length := by rw [h6, ← hbs]; exact hi
  have hil : i < l.length := by rw [← hbs]; exact hi
  obtain ⟨_, _, _, _, _, hn⟩ := h4.node i hi hiL
  have hg : NGood (L[i]'hiL) := by
    rw [h7 i hiL hil]
    unfold wat
    rw [if_neg (by omega), if_pos rfl]
    exact (NGood.start (hgo _ (List.getElem_mem hil))).watchAll _
  refine (watch_any hn hg _ hid _).mono fun e W' ⟨k1, k2, k3⟩ => ⟨⟨_, k1⟩, L3Rel.told h2 h3 h4 h6 h7 hil hk h5 k3 k2⟩
theorem L3Rel.done (h : L3Rel w l tb Aa ca nv dv bs l.length 0 wr) : TwTo w (fun _ => 0) w tb (TSt.start l) wr := by
  obtain ⟨F, L, h2, h3, h4, h5, h6⟩ := h
  refine ⟨F, h2, h3, _, _, _, _, _, _, h4.done h5 (fun j hj hj' => ?_)⟩
  rw [h6 j hj hj']
  unfold wat
  rw [if_pos (by omega)]
theorem L1Rel.bel (h : L1Rel w l tb Aa ca dv mb k wr) : Below w.heap.size w wr := by
  obtain ⟨F, nv, bs, h1, h2, _⟩ := h
  exact h2.bel
end
set_option maxHeartbeats 4000000 in
set_option maxRecDepth 100000 in
theorem tnew_go (A : Option Addr) (c n : Nat) (l : List CfgD) (hl : l.length = n) (h5 : n ≤ 5) (hs : ∀ c ∈ l, c.1.size ≤ maxLen) (w : World) (hr : Reads w w.heap.size 5 A n (cellsCf l)) :
    Calls Tryz.prog 69 #[.slice A n c] w (TnewIs w l) := by
  obtain ⟨in0, hin, hin0, hin1, hin2⟩ := info_parts Tryz.info4
  have HL := Lib.hid hl
  have HR := Lib.hid hr
  have HCL := Lib.hid (show ∀ W', Below w.heap.size w W' → Calls Tryz.prog 108 #[.slice A n c] W' (NewCf n (cellsCf l) W') from fun W' hb => clCf_any A c n w.heap.size (cellsCf l) (by omega) (oneCell_Cf l) W' (hr.below hb (Nat.le_refl _)) hb.size)
  have hmk := fun W' => run_make (P := Tryz.prog) W' 135 4 in0 (.bool false) Tryz.underlying135 hin hin0 .i64 .i64 n n (by omega) (by omega) (by rw [hin2]; omega) (by omega)
  simp only [hin1, Int.toNat_natCast, Nat.mul_one, Value.cells] at hmk
  have hn5 : (n : Int) ≤ 5 := by omega
  have hd1 : decide (5 < n) = false := by rw [decide_eq_false]; omega
  have hd2 : decide (5 < (n : Int)) = false := by rw [decide_eq_false]; omega
  have HNT := Lib.hid (show newTE l = chkIds [] l by unfold newTE; rw [if_neg (by omega)])
  have hmm := @run_makeMap Tryz.prog
  clear hl hr
  go_enter Tryz.func69, Tryz.ntmps69
  go_upto_region 3 with fail
  go_cut [4] (fun s4 wx => TStart w l s4 wx)
  case first =>
    go_region_held3 (fun w' => Below w.heap.size w w')
      ((repeat (first | (with_reducible exact hLL) | (with_reducible exact Below.refl _ _) | (with_reducible refine Below.drew ?_) | (with_reducible refine Below.alB ?_))))
      (first
        | (go_at_call 108; (with_reducible refine (HCL.out _ ?ia).mono ?_); (case ia => (repeat (first | (with_reducible exact hLL) | (with_reducible exact Below.refl _ _) | (with_reducible refine Below.drew ?_) | (with_reducible refine Below.alB ?_)))); rintro e' w1 ⟨A1, c1, rfl, ho1, hb1⟩; have hLL : Below w.heap.size w w1 := Below.thru5 (by (repeat (first | (with_reducible exact hLL) | (with_reducible exact Below.refl _ _) | (with_reducible refine Below.drew ?_) | (with_reducible refine Below.alB ?_)))) hb1))
    all_goals
      clear hmk HCL
      have HM := Lib.hid (show n ≤ maxLen by unfold maxLen; omega)
      have HO1 := Lib.hid ho1
      have HB1 := Lib.hid hb1
      clear ho1 hb1 hLL
      go_wp2_with fail
      go_meet
      first
        | exact tb_A HL.out HM.out (Below.refl _ _) HO1.out HB1.out
        | exact tb_A HL.out HM.out (Below.refl _ _).drew HO1.out HB1.out
        | exact tb_B HL.out HM.out HO1.out HB1.out
  case rest =>
    obtain ⟨F, tb, Aa, ca, dv, rfl, hC, hM, hT⟩ := hcut
    have R0 := Lib.hid (L1Rel.start hC hM hT)
    have BC := Lib.hid hC.bel
    clear hC hM hT hmk HCL
    go_wp2_with fail
    obtain ⟨mb, hmb⟩ : ∃ mb, wc.heap.size = mb := ⟨_, rfl⟩
    rw [hmb] at R0 ⊢
    clear hmb
    have hI0 := info_parts ptr_info
    obtain ⟨ip0, hip, hip0, hip1, hip2⟩ := hI0
    go_loopw [27] (fun iv wr => ∃ k : Nat, k ≤ n ∧ iv = .int .i64 (k : Int) ∧ L1Rel w l tb Aa ca dv mb k wr) (fun iv _ => n - (RowKit.intOf iv).toNat)
    case atStart => exact ⟨0, Nat.zero_le _, rfl, R0.out⟩
    case round =>
      obtain ⟨k, hk, rfl, hrel⟩ := hrel
      obtain ⟨wo, rfl⟩ : ∃ wo, wo = wr := ⟨_, rfl⟩
      have RL := Lib.hid hrel
      clear hrel R0
      by_cases hlt : k < n
      · have hkl : k < l.length := by rw [HL.out]; exact hlt
        obtain ⟨ba, off, rfl, hba, hcs⟩ := cfg_addr (HR.out.below RL.out.bel (Nat.le_refl _)) HL.out (by omega)
        obtain ⟨c0, c1, c2, c3, c4⟩ := hcs k hkl
        have hbo : ba < wo.heap.size := Nat.lt_of_lt_of_le hba RL.out.bel.size
        have HSZ := Lib.hid (hs _ (List.getElem_mem hkl))
        have CK0 := Lib.hid (show CkTo l k by obtain ⟨_, _, _, h, _⟩ := RL.out; exact h)
        have CKb := Lib.hid (CK0.out.bad hkl)
        have CKt := Lib.hid (CK0.out.twice hkl)
        have CKn := Lib.hid (CK0.out.next hkl)
        have HTK := Lib.hid (List.take_succ_eq_append_getElem hkl)
        generalize l[k]'hkl = cc at *
        obtain ⟨cs, ci, ce, cp, cl⟩ := cc
        simp only [] at c0 c1 c2 c3 c4 HSZ
        have EX := Lib.hid ((Env.start wo).lay #[.string cs, .int .i64 ci, .int .i64 ce, .int .i64 cp, .int .i64 cl] 100)
        have RX := Lib.hid (RL.out.below EX.out.bel)
        clear hcs
        by_cases he : cfgE (cs, ci, ce, cp, cl) = 0
        · have HE := Lib.hid he
          clear he CKb
          go_wp2_with fail
          refine (new_okT cs ci ce cp cl HE.out _).mono ?_
          rintro e' w2 ⟨nb, rfl, hnb, hat, hb2⟩
          have E2 := Lib.hid (EX.out.below hb2)
          obtain ⟨F, nv, bs, -, hC, hM, hT, hMM, hmF⟩ := RX.out
          obtain ⟨q1, q2, q3, q4⟩ := hT.born hC hnb hat hb2
          have hbk : bs.length = k := by rw [hT.len, List.length_map, List.length_take]; omega
          have MM2 := Lib.hid (hMM.below hb2)
          have hmF2 := (q4.old mb hMM.lt).trans hmF
          have T2 := Lib.hid q1
          have N2 := Lib.hid q2
          have C2 := Lib.hid q3
          have M2 := Lib.hid (hM.trans (q4.mono (fun c hc => by unfold ProgC; omega)))
          obtain ⟨F2, hF2⟩ : ∃ F2, paint F (wo.alloc (.cells #[.string cs, .int .i64 ci, .int .i64 ce, .int .i64 cp, .int .i64 cl] 100)) w2 (10 + bs.length) = F2 := ⟨_, rfl⟩
          rw [hF2] at T2 N2 C2 M2 hmF2
          have HMF := Lib.hid hmF2
          have HBK := Lib.hid hbk
          have x0 := E2.out.hd.cell 0
          have hx0 := E2.out.hd.lt
          simp at x0
          obtain ⟨sm, hsm⟩ : ∃ sm, seenM ((l.take k).map Prod.fst) = sm := ⟨_, rfl⟩
          obtain ⟨kl, hkl2⟩ : ∃ kl, Lit.string cs.data.toList = kl := ⟨_, rfl⟩
          rw [hsm] at MM2
          have HKY := Lib.hid (show keyOf Tryz.prog 9 (.string cs) = some kl by rw [← hkl2]; exact Go.WideMaps.keyOf_string_mk Tryz.underlying9 HSZ.out)
          have HSM := Lib.hid (show sm kl = ((l.take k).map Prod.fst).any (fun x => decide (x = cs)) by rw [← hsm, ← hkl2]; exact seenM_at _ _)
          have HS1 := Lib.hid (show seenM ((l.take k).map Prod.fst ++ [cs]) kl = true by rw [← hkl2]; exact seenM_new _ _)
          have HS2 := Lib.hid (show ∀ q, q ≠ kl → seenM ((l.take k).map Prod.fst ++ [cs]) q = sm q by rw [← hkl2, ← hsm]; exact seenM_old _ _)
          clear hnb hat hb2 hC hM hT hMM hmF q1 q2 q3 q4 hbk hmF2 hF2 hsm hkl2 c0 c1 c2 c3 c4
          cases hsb : sm kl with
          | true =>
            have HSB := Lib.hid hsb
            have Q5 := Lib.hid (show newTE l = 5 by rw [HNT.out]; exact CKt.out HE.out (by rw [← HSM.out]; exact hsb))
            have FIN := Lib.hid (show ∀ W', Below w2.heap.size w2 W' → TnewIs w l (.returned (.tuple #[.pointer none, .int .i64 5])) W' from fun W' hb => .inr ⟨by rw [Q5.out]; decide, by rw [Q5.out], Below.thru5 C2.out.bel hb⟩)
            clear hsb
            go_wp2_with (at_lookup; refine wpList_lookup_is _ rfl _ _ 139 rfl 9 4 (Go.Maps.string_keyed Tryz.underlying9) Tryz.underlying139 Tryz.underlying4 (zero_bool _) mb k sm rfl MM2.out (.string cs) kl rfl HKY.out _ HSB.out ?_)
            go_ret2
            exact FIN.out _ (Below.refl _ _)
          | false =>
            have HSB := Lib.hid hsb
            have HK9 := Lib.hid (show k < maxLen by unfold maxLen; omega)
            have BD1 := Lib.hid (show bs.length + 1 ≤ maxLen by have := HBK.out; unfold maxLen; omega)
            have BD2 := Lib.hid (show (bs.length + 1) * 8 ≤ 140737488355328 by have := HBK.out; omega)
            have CKN := Lib.hid (CKn.out HE.out (by rw [← HSM.out]; exact hsb))
            obtain ⟨An, cn, rfl⟩ := ownsRow_len T2.out.nds.1
            have G3 := Lib.hid (show ∀ w3, w2.grownBy w3 (some mb) → tb < w3.heap.size ∧ w3.cell? ⟨tb, 1, none⟩ = some (.slice An bs.length cn) ∧ Col w w3 F2 ∧ Moved ProgC (fun _ => 0) w F2 w3 ∧ TbIs F2 w3 tb Aa ca (.slice An bs.length cn) dv bs ((l.take k).map NSt.start) l ∧ NodeAt (fun x => F2 x = 10 + bs.length) w3 nb (NSt.start (cs, ci, ce, cp, cl)) from fun w3 hg3 => by
              obtain ⟨m3, C3h⟩ := Moved.grown C2.out hg3 HMF.out (by decide)
              have t3 := T2.out.other C2.out m3 (fun c hc => by have := HBK.out; omega)
              exact ⟨t3.cells.1, t3.cells.2, C3h, M2.out.trans (m3.mono (fun c hc => by unfold ProgC; omega)), t3, m3.hold C2.out (by omega) (by have := HBK.out; omega) N2.out⟩)
            clear x0 hx0
            have x0 := E2.out.hd.cell 0
            have hx0 := E2.out.hd.lt
            simp at x0
            clear hsb
            go_wp2_with (first
              | (at_lookup; refine wpList_lookup_is _ rfl _ _ 139 rfl 9 4 (Go.Maps.string_keyed Tryz.underlying9) Tryz.underlying139 Tryz.underlying4 (zero_bool _) mb k sm rfl MM2.out (.string cs) kl rfl HKY.out _ HSB.out ?_)
              | (at_mapUpdate; refine wpList_store_mark _ rfl _ _ _ 139 rfl 9 4 (Go.Maps.string_keyed Tryz.underlying9) Tryz.underlying139 Tryz.underlying4 mb k sm rfl MM2.out HK9.out (.string cs) kl true rfl rfl HKY.out (seenM ((l.take k).map Prod.fst ++ [cs])) HS1.out HS2.out ?_; intro w3 hmm3 hg3; have MM3 := Lib.hid hmm3; have HG3 := Lib.hid hg3; obtain ⟨htb3, z1, -⟩ := G3.out w3 hg3; clear hmm3 hg3)
              | (at_builtin; refine wpList_append_any _ rfl _ _ 136 rfl 0 140 ip0 (.pointer none) 1 8 Tryz.underlying136 hip hip0 hip1 hip2 rfl (by decide) _ bs.length (ptrs bs) rfl ((G3.out w3 HG3.out).2.2.2.2.1.nds.1.alloc _) (w3.heap.size + 1) (some ⟨w3.heap.size, 0, none⟩) 1 _ [.pointer (some ⟨nb, 0, none⟩)] rfl (reads_one _ _ _) one_ptr BD1.out BD2.out (Nat.zero_le _) ?_; intro nv4 w4 ho4 hg4 hb4; obtain ⟨An4, cn4, rfl⟩ := ownsRow_len ho4; have B4 := (G3.out w3 HG3.out).2.2.2.2.1.four (Below.alB (Below.refl _ _)) hg4; have htb4 := B4.lt; have y1 := B4.cell 1; have yf := B4.frozen 1; simp at y1; have O4 := Lib.hid ho4; have G4 := Lib.hid hg4; have H4 := Lib.hid hb4; clear ho4 hg4 hb4 B4))
            obtain ⟨-, -, g1, g2, g3, g4⟩ := G3.out w3 HG3.out
            have FIN := Lib.hid (L1Rel.next CKN.out HTK.out g1 g2 g3 g4 MM3.out HMF.out (by have := HBK.out; omega) (Below.alB (Below.refl _ _)) O4.out G4.out H4.out)
            exact ⟨⟨k + 1, by omega, by simp, FIN.out⟩, by simp [RowKit.intOf]; omega⟩
        · obtain ⟨e0, he0⟩ : ∃ e0, cfgE (cs, ci, ce, cp, cl) = e0 := ⟨_, rfl⟩
          have Q1 := Lib.hid ((CKb.out he).trans he0)
          rw [he0] at he
          have HE := Lib.hid he0
          have HZ := Lib.hid he
          have hz1 : (e0 != 0) = true := by simpa using he
          clear he he0
          go_wp2_with fail
          refine (new_noT cs ci ce cp cl HSZ.out e0 HE.out HZ.out _).mono ?_
          rintro e' w2 ⟨rfl, hb2⟩
          have FIN := Lib.hid (show TnewIs w l (.returned (.tuple #[.pointer none, .int .i64 e0])) w2 from .inr ⟨by rw [HNT.out, Q1.out]; exact HZ.out, by rw [HNT.out, Q1.out], Below.thru5 RX.out.bel hb2⟩)
          clear hb2
          go_wp2
          go_ret2
          exact FIN.out
      · obtain rfl : k = n := by omega
        have HL2 := HL.out
        subst HL2
        obtain ⟨nv, bs, hne, hbs, hgo, h3, F0, hnr⟩ := RL.out.fin
        obtain ⟨An, cn, rfl⟩ := ownsRow_len hnr.1
        have L0 := Lib.hid h3
        have HNE := Lib.hid hne
        have HGO := Lib.hid hgo
        have HBS := Lib.hid hbs
        clear hne hgo hnr h3 hbs
        have hbs5 : (bs.length : Int) ≤ 5 := by have := HBS.out; omega
        obtain ⟨htb, z1⟩ := L0.out.cell1
        go_wp2_with fail
        go_loopw [62] (fun iv wr => ∃ i : Nat, i ≤ l.length ∧ iv = .int .i64 (i : Int) ∧ L3Rel w l tb Aa ca (.slice An bs.length cn) dv bs i 0 wr) (fun iv _ => l.length - (RowKit.intOf iv).toNat)
        case atStart => exact ⟨0, Nat.zero_le _, rfl, L0.out⟩
        case round =>
          obtain ⟨i, hi, rfl, hrel⟩ := hrel
          obtain ⟨wp, rfl⟩ : ∃ wp, wp = wr := ⟨_, rfl⟩
          have LP := Lib.hid hrel
          clear hrel L0 z1
          by_cases hil : i < l.length
          · have hib : i < bs.length := by rw [HBS.out]; exact hil
            obtain ⟨gn, cn', e1, hn1, hn2, hgn, g0⟩ := LP.out.ptr hib
            simp only [Value.slice.injEq] at e1
            obtain ⟨rfl, -, rfl⟩ := e1
            unfold maxLen at hn2
            have ii0 : (0 : Int) ≤ (i : Int) := by omega
            have ii1 : (i : Int) < (bs.length : Int) := by omega
            have HND := Lib.hid (fun k W' (hk : k < l.length) (hL : L3Rel w l tb Aa ca (.slice (some ⟨gn, 0, none⟩) bs.length cn) dv bs i k W') => hL.node HBS.out h5 HGO.out hib hk (hs _ (List.getElem_mem hk)))
            generalize bs[i]'hib = b at *
            go_wp2_with fail
            go_loopw [69] (fun kv wr => ∃ k : Nat, k ≤ l.length ∧ kv = .int .i64 (k : Int) ∧ L3Rel w l tb Aa ca (.slice (some ⟨gn, 0, none⟩) bs.length cn) dv bs i k wr) (fun kv _ => l.length - (RowKit.intOf kv).toNat)
            case atStart => exact ⟨0, Nat.zero_le _, rfl, LP.out⟩
            case round =>
              obtain ⟨k, hk, rfl, hrel⟩ := hrel
              obtain ⟨wq, rfl⟩ : ∃ wq, wq = wr := ⟨_, rfl⟩
              have LQ := Lib.hid hrel
              clear hrel g0
              by_cases hkl : k < l.length
              · obtain ⟨ba, off, rfl, hba, hcs⟩ := cfg_addr (HR.out.below LQ.out.bel (Nat.le_refl _)) rfl (by omega)
                obtain ⟨c0, c1, c2, c3, c4⟩ := hcs k hkl
                have hbo : ba < wq.heap.size := Nat.lt_of_lt_of_le hba LQ.out.bel.size
                have HN2 := Lib.hid (fun W' hL => HND.out k W' hkl hL)
                generalize l[k]'hkl = cc at *
                obtain ⟨cs, ci, ce, cp, cl⟩ := cc
                simp only [] at c0 c1 c2 c3 c4 HN2
                have EX := Lib.hid ((Env.start wq).lay #[.string cs, .int .i64 ci, .int .i64 ce, .int .i64 cp, .int .i64 cl] 100)
                have LX := Lib.hid (LQ.out.below EX.out.bel)
                have ik1 : (k : Int) < (l.length : Int) := by omega
                clear hcs
                by_cases hki : k = i
                · subst hki
                  have FIN := Lib.hid (LX.out.own hkl)
                  go_wp2
                  exact ⟨⟨k + 1, by omega, by simp, FIN.out⟩, by simp [RowKit.intOf]; omega⟩
                · have hki1 : ((k : Int) == (i : Int)) = false := by simp; omega
                  have hki2 : ((k : Int) != (i : Int)) = true := by simp; omega
                  clear hki
                  go_wp2_with fail
                  refine (HN2.out _ LX.out).mono ?_
                  rintro e' w2 ⟨⟨er, rfl⟩, hL2⟩
                  have FIN := Lib.hid hL2
                  clear hL2
                  go_wp2
                  exact ⟨⟨k + 1, by omega, by simp, FIN.out⟩, by simp [RowKit.intOf]; omega⟩
              · obtain rfl : k = l.length := by omega
                have FIN := Lib.hid LQ.out.outer
                go_wp2
                exact ⟨⟨i + 1, by omega, by simp, FIN.out⟩, by simp [RowKit.intOf]; omega⟩
          · obtain rfl : i = l.length := by omega
            have hbl : (bs.length : Int) ≤ (l.length : Int) := by have := HBS.out; omega
            have FIN := Lib.hid (show TnewIs w l (.returned (.tuple #[.pointer (some ⟨tb, 0, none⟩), .int .i64 0])) wp from .inl ⟨HNT.out.trans HNE.out, tb, rfl, LP.out.done⟩)
            go_wp2
            go_ret2
            exact FIN.out
theorem tnew_any (A : Option Addr) (c : Nat) (l : List CfgD) (hs : ∀ c ∈ l, c.1.size ≤ maxLen) (w : World) (hr : Reads w w.heap.size 5 A l.length (cellsCf l)) :
    Calls Tryz.prog 69 #[.slice A l.length c] w (TnewIs w l) := by
  by_cases h5 : 5 < l.length
  · have he : newTE l = 2 := by unfold newTE; rw [if_pos h5]
    exact (tnew_large A c _ h5 w).mono fun e W' ⟨k1, k2⟩ => .inr ⟨by rw [he]; decide, by rw [he]; exact k1, k2 ▸ Below.refl _ _⟩
  · exact tnew_go A c _ l rfl (by omega) hs w hr
end Go.Proofs.YthimchhnhhchkaaGreatDoor
