/- node.Hear, walked. (with what it needs) -/
import Derived.Test.YthimchhnhhchkaaGreatDoorM35
import Derived.Test.YthimchhnhhchkaaGreatDoorM22
import Derived.Test.YthimchhnhhchkaaGreatDoorM30
namespace Go.Proofs.YthimchhnhhchkaaGreatDoor
open Go.RowKit Go.Lib
set_option linter.unusedSimpArgs false
set_option linter.unusedVariables false

/-- one drop more -/
def NSt.drop (s : NSt) : NSt := { s with drops := min (s.drops + 1) 1073741824 }
/-- peers after a beat of the k-th that is let through, and of one that is not -/
def heardN (D : List PeerD) (k : Nat) (i q now : Int) : List PeerD := match D[k]? with | some d => D.set k (newD d i q (min (now - d.2.2.2.2) 16777216) now) | none => D
def heardO (D : List PeerD) (k : Nat) : List PeerD := match D[k]? with | some d => D.set k (oldD d (min (d.2.1.2.2 + 1) 1073741824)) | none => D
def isNew (D : List PeerD) (k : Nat) (i q : Int) : Bool := match D[k]? with | some d => decide (Newer d.2.1.1 d.2.1.2.1 i q) | none => false
/-- what Hear makes of a text: 0: nothing but a drop (the error), 1: known, not let through, 2: let through -/
inductive HK | no (e : Int) | old (k : Nat) | new (k : Nat) (i q : Int)
def NSt.kind (s : NSt) (x : ByteArray) : HK :=
  if (decR x).2.2.2 ≠ 0 then .no (decR x).2.2.2 else match idxOf s.D (decR x).1 with
  | none => .no 4
  | some k => if isNew s.D k (decR x).2.1 (decR x).2.2.1 = true then .new k (decR x).2.1 (decR x).2.2.1 else .old k
def NSt.hearE (s : NSt) (x : ByteArray) : Int := match s.kind x with | .no e => e | .old _ => 5 | .new _ _ _ => 0
def NSt.mid (s : NSt) (x : ByteArray) : NSt := match s.kind x with | .no _ => s.drop | .old k => { s with D := heardO s.D k, drops := min (s.drops + 1) 1073741824 } | .new k i q => { s with D := heardN s.D k i q s.now }
def NSt.heard (s : NSt) (x : ByteArray) : NSt := if s.hearE x = 0 then (s.mid x).tell else s.mid x
def NSt.hearN (s : NSt) (x : ByteArray) : List TriD := if s.hearE x = 0 then (s.mid x).notes else []
theorem NGood.drop {s : NSt} (h : NGood s) : NGood s.drop :=
  ⟨h.id, h.cfg, h.now0, h.now1, h.seqs, by have := h.drops0; show 0 ≤ min (s.drops + 1) 1073741824; omega, by show min (s.drops + 1) 1073741824 ≤ 1073741824; omega, h.ps, h.pv, h.eight, h.th⟩
theorem set_pw {D : List PeerD} {k : Nat} {d' : PeerD} (h : PsOk D) (hk : k < D.length) (hid : d'.1 = (D[k]'hk).1) (hg : DGood d') : PsOk (D.set k d') := by
  refine ⟨by rw [List.length_set]; exact h.six, fun d hd => ?_, ?_⟩
  · rcases List.mem_or_eq_of_mem_set hd with hd | rfl
    · exact h.good d hd
    · exact hg
  · have hp := h.asc
    rw [List.pairwise_iff_getElem] at hp ⊢
    intro i j hi hj hij
    rw [List.length_set] at hi hj
    have e : ∀ i, (hi : i < D.length) → ((D.set k d')[i]'(by rw [List.length_set]; exact hi)).1 = (D[i]'hi).1 := fun i hi => by
      rw [List.getElem_set]
      split
      · rename_i h; subst h; exact hid
      · rfl
    have := hp i j hi hj hij
    unfold DLess at this ⊢
    rw [e i hi, e j hj]; exact this
theorem pushV_le {cap x : Int} {v : List Int} (hw : winE cap v = 0) (h1 : 1 ≤ v.length) (hx : wi x 0 16777216 = true) : winE cap (pushV cap v x) = 0 ∧ 1 ≤ (pushV cap v x).length := by
  obtain ⟨c0, c1, c2, c3⟩ := winE_zero hw
  have hx0 : offI x = false := by unfold offI; rw [hx]; rfl
  have hall : ∀ y ∈ v, offI y = false := by
    unfold listE at c3
    split at c3
    · cases c3
    split at c3
    · cases c3
    · rename_i h; simpa using h
  have main : ∀ u : List Int, (∀ y ∈ u, offI y = false) → (u.length : Int) ≤ cap → winE cap u = 0 := fun u hu hl => by
    unfold winE
    rw [if_pos (wi_true.2 ⟨c0, c1⟩), if_neg (by omega)]
    unfold listE
    rw [if_neg (by omega), if_neg (by simpa using hu)]
  unfold pushV
  split
  · rename_i h
    exact ⟨main _ (fun y hy => by rcases List.mem_append.1 hy with hy | hy; exact hall y hy; rw [List.mem_singleton.1 hy]; exact hx0) (by simp; omega), by simp⟩
  · rename_i h
    exact ⟨main _ (fun y hy => by rcases List.mem_append.1 hy with hy | hy; exact hall y (List.mem_of_mem_tail hy); rw [List.mem_singleton.1 hy]; exact hx0) (by simp; omega), by simp⟩
theorem good_new {d : PeerD} {i q now : Int} (h : DGood d) (h1 : 1 ≤ d.2.2.2.1.length) (hb : BeatNo i q) (hl : d.2.2.2.2 ≤ now) (h0 : 0 ≤ now) (hn : now ≤ 1073741824) : DGood (newD d i q (min (now - d.2.2.2.2) 16777216) now) ∧ 1 ≤ (newD d i q (min (now - d.2.2.2.2) 16777216) now).2.2.2.1.length := by
  obtain ⟨g1, g2, g3, g4, g5⟩ := h
  have hp := pushV_le (cap := d.2.2.1) (x := min (now - d.2.2.2.2) 16777216) (v := d.2.2.2.1) g3 h1 (wi_true.2 ⟨by omega, by omega⟩)
  refine ⟨⟨g1, ?_, hp.1, h0, hn⟩, hp.2⟩
  show GateOk i q d.2.1.2.2
  unfold GateOk BeatNo at *
  have e : GateOk d.2.1.1 d.2.1.2.1 d.2.1.2.2 := g2
  unfold GateOk at e
  omega
theorem good_old {d : PeerD} (h : DGood d) : DGood (oldD d (min (d.2.1.2.2 + 1) 1073741824)) := by
  obtain ⟨g1, g2, g3, g4, g5⟩ := h
  refine ⟨g1, ?_, g3, g4, g5⟩
  show GateOk d.2.1.1 d.2.1.2.1 (min (d.2.1.2.2 + 1) 1073741824)
  have e : GateOk d.2.1.1 d.2.1.2.1 d.2.1.2.2 := g2
  unfold GateOk at e ⊢
  omega
theorem beatNo_of {b : ByteArray} {i q : Int} (h : beatE b i q = 0) : BeatNo i q := beatE_ok h
theorem NGood.mid {s : NSt} (h : NGood s) (x : ByteArray) : NGood (s.mid x) := by
  unfold NSt.mid NSt.kind
  by_cases he : (decR x).2.2.2 ≠ 0
  · rw [if_pos he]; exact h.drop
  rw [if_neg he]
  have hz : (decR x).2.2.2 = 0 := Classical.not_not.1 he
  cases hi : idxOf s.D (decR x).1 with
  | none => exact h.drop
  | some k =>
    obtain ⟨hk, h1, h2⟩ := idx_some hi
    have ek : s.D[k]? = some (s.D[k]'hk) := List.getElem?_eq_getElem hk
    have hm := List.getElem_mem hk
    have hgd := h.ps.good _ hm
    have hpv := h.pv _ hm
    by_cases hn : isNew s.D k (decR x).2.1 (decR x).2.2.1 = true
    · show NGood (match (if isNew s.D k (decR x).2.1 (decR x).2.2.1 = true then HK.new k (decR x).2.1 (decR x).2.2.1 else HK.old k) with | .no _ => s.drop | .old k => _ | .new k i q => _)
      rw [if_pos hn]
      have e : heardN s.D k (decR x).2.1 (decR x).2.2.1 s.now = s.D.set k (newD (s.D[k]'hk) (decR x).2.1 (decR x).2.2.1 (min (s.now - (s.D[k]'hk).2.2.2.2) 16777216) s.now) := by unfold heardN; rw [ek]
      have hgn := good_new hgd hpv.1 (beatNo_of (decR_zero hz)) hpv.2 h.now0 h.now1
      refine ⟨h.id, h.cfg, h.now0, h.now1, h.seqs, h.drops0, h.drops1, ?_, ?_, h.eight, h.th⟩
      · show PsOk (heardN _ _ _ _ _); rw [e]; exact set_pw h.ps hk rfl hgn.1
      · show ∀ d ∈ heardN _ _ _ _ _, _
        rw [e]
        intro d hd
        rcases List.mem_or_eq_of_mem_set hd with hd | rfl
        · exact h.pv d hd
        · exact ⟨hgn.2, Int.le_refl _⟩
    · show NGood (match (if isNew s.D k (decR x).2.1 (decR x).2.2.1 = true then HK.new k (decR x).2.1 (decR x).2.2.1 else HK.old k) with | .no _ => s.drop | .old k => _ | .new k i q => _)
      rw [if_neg hn]
      have e : heardO s.D k = s.D.set k (oldD (s.D[k]'hk) (min ((s.D[k]'hk).2.1.2.2 + 1) 1073741824)) := by unfold heardO; rw [ek]
      have hd2 := h.drop
      refine ⟨h.id, h.cfg, h.now0, h.now1, h.seqs, hd2.drops0, hd2.drops1, ?_, ?_, h.eight, h.th⟩
      · show PsOk (heardO _ _); rw [e]; exact set_pw h.ps hk rfl (good_old hgd)
      · show ∀ d ∈ heardO _ _, _
        rw [e]
        intro d hd
        rcases List.mem_or_eq_of_mem_set hd with hd | rfl
        · exact h.pv d hd
        · exact hpv
theorem NGood.heard {s : NSt} (h : NGood s) (x : ByteArray) : NGood (s.heard x) := by
  unfold NSt.heard
  split
  · exact (h.mid x).tell
  · exact h.mid x
end Go.Proofs.YthimchhnhhchkaaGreatDoor

namespace Go.Proofs.YthimchhnhhchkaaGreatDoor
open Go.RowKit Go.Lib
set_option linter.unusedSimpArgs false
set_option linter.unusedVariables false

/-- the answer of Hear -/
def HrIs (X : Nat → Prop) (b : Nat) (s' : NSt) (N : List TriD) (er : Int) (w : World) (e : Ending) (w' : World) : Prop :=
  ∃ A c, e = .returned (.tuple #[.slice A N.length c, .int .i64 er]) ∧ w'.ownsRow w.heap.size 146 3 (.slice A N.length c) N.length (cells3 N) ∧ NodeAt (grow X w w') w' b s' ∧ Kept X w w'
theorem HrIs.no {X : Nat → Prop} {b : Nat} {s' : NSt} {er : Int} {w w' : World} (h : NodeAt (grow X w w') w' b s') (hk : Kept X w w') : HrIs X b s' [] er w (.returned (.tuple #[.slice none 0 0, .int .i64 er])) w' :=
  ⟨none, 0, rfl, World.ownsRow_nil _ _ _ _, h, hk⟩
theorem grow_of {X : Nat → Prop} {w w1 w2 : World} (h : w1.heap.size ≤ w2.heap.size) : ∀ k, grow X w w1 k → grow X w w2 k := fun k hk => ⟨hk.1, Nat.lt_of_lt_of_le hk.2 h⟩

theorem idx_none_l {l : List PeerT} {D : List PeerD} {id : ByteArray} (hm : l.map Prod.fst = D) (h : idxOf D id = none) : ∀ j, (hj : j < l.length) → pid (l[j]'hj) ≠ id := by
  subst hm
  intro j hj e
  exact idx_none h j (by simpa using hj) (by simpa using e)
theorem keeps_from {w W : World} {A A' : Option Addr} {l l' : List PeerT} (h : KeepsP W A l A' l') (hs : w.heap.size ≤ W.heap.size) : KeepsP w A l A' l' := fun P hP h0 => h P (fun k hk => hP k (Nat.le_trans hs hk)) h0

section
variable {X : Nat → Prop} {w : World} {b pn pc : Nat} {A : Option Addr} {sv : Value} {l : List PeerT} {s : NSt}
set_option maxHeartbeats 1000000 in
set_option maxRecDepth 100000 in
theorem hr_dec (h : NodeIs X w b A pn pc sv l s) (hg : NGood s) (x : ByteArray) {id : ByteArray} {i q er : Int} (he : decR x = (id, i, q, er)) (hz : er ≠ 0) :
    Calls Tryz.prog 114 #[.pointer (some ⟨b, 0, none⟩), .string x] w (HrIs X b s.drop [] er w) := by
  have HH := Lib.hid h
  have HG := Lib.hid hg
  have HX := Lib.hid h.xlt
  have hbl := h.blk.lt
  have hd0 := hg.drops0
  have hd1 := hg.drops1
  have hn0 := hg.now0
  have hn1 := hg.now1
  have HE := Lib.hid he
  have HD := Lib.hid (fun W => dec_any x W)
  simp only [he] at HD
  clear h hg he
  go_enter Tryz.func114, Tryz.ntmps114
  go_wp2_with fail
  refine (HD.out _).mono ?_
  rintro e' w1 ⟨rfl, hb1⟩
  have N1 := Lib.hid (HoldIs.below HH.out hb1)
  have B1 := Lib.hid hb1
  have hs1 := hb1.size
  clear hb1
  have E1 := Lib.hid (B1.out.alloc hs1 (.cells #[.string id, .int .i64 i, .int .i64 q] 173))
  have N2 := Lib.hid (HoldIs.below HH.out E1.out)
  have hbl2 := N2.out.blk.lt
  have b7 := N2.out.blk.cell 7
  have f7 := N2.out.blk.frozen 7
  simp [nodeCs] at b7 f7
  have NS := Lib.hid (HoldIs.set (mk' := nodeCs s.c s.now s.seq (min (s.drops + 1) 1073741824)) N2.out 7 (.int .i64 (min (s.drops + 1) 1073741824)) rfl)
  have KS := Lib.hid ((Kept.of_below (X := X) E1.out).setCell (a := ⟨b, 7, none⟩) (.inl HH.out.xb) (.int .i64 (min (s.drops + 1) 1073741824)))
  clear N1 B1
  go_wp2
  all_goals first
    | (exfalso; omega)
    | (refine bodyPost_ret (v := .tuple #[.slice none 0 0, .int .i64 er]) (by simp [results, Tryz.results114, go_sem]) rfl ?_; exact .no (HoldIs.at_ (HoldIs.grow NS.out)) KS.out)

set_option maxHeartbeats 1000000 in
set_option maxRecDepth 100000 in
theorem hr_none (h : NodeIs X w b A pn pc sv l s) (hg : NGood s) (x : ByteArray) {id : ByteArray} {i q : Int} (he : decR x = (id, i, q, 0)) (hb : beatE id i q = 0) (hno : idxOf s.D id = none) :
    Calls Tryz.prog 114 #[.pointer (some ⟨b, 0, none⟩), .string x] w (HrIs X b s.drop [] 4 w) := by
  have HH := Lib.hid h
  have HG := Lib.hid hg
  have HX := Lib.hid h.xlt
  have hbl := h.blk.lt
  have hd0 := hg.drops0
  have hd1 := hg.drops1
  have hn0 := hg.now0
  have hn1 := hg.now1
  have HB := Lib.hid hb
  have hmm : pn ≤ maxLen := Nat.le_trans h.room.1 h.room.2
  have he0 : peersE l = 0 := by rw [peersE_map, h.map]; exact hg.ps.zero
  have HD := Lib.hid (fun W => dec_any x W)
  simp only [he] at HD
  have HP0 := Lib.hid (show ∀ W, Below w.heap.size w W → Calls Tryz.prog 143 #[.slice A pn pc, .agg #[.string id, .int .i64 i, .int .i64 q], .int .i64 s.now] W (HearNo 4 W) from fun W hw => hear_none A pc w.heap.size pn l hmm id (by unfold maxLen; have := (beatE_zero HB.out).1; omega) i q s.now W (h.peers.below hw (Nat.le_refl _)) hw.size he0 hb hn0 hn1 (idx_none_l h.map hno))
  clear h hg he hb he0 hno
  go_enter Tryz.func114, Tryz.ntmps114
  go_wp2_with fail
  refine (HD.out _).mono ?_
  rintro e' w1 ⟨rfl, hb1⟩
  have N1 := Lib.hid (HoldIs.below HH.out hb1)
  have B1 := Lib.hid hb1
  have hs1 := hb1.size
  clear hb1
  have hid8 : id.size ≤ 8 := (beatE_zero HB.out).1
  have E1 := Lib.hid ((Env.start w1).lay #[.string id, .int .i64 i, .int .i64 q] 173)
  have N2 := Lib.hid (HoldIs.below N1.out E1.out.bel)
  have BW := Lib.hid (B1.out.trans (E1.out.bel.mono hs1))
  go_upto_region 18 with fail
  generalize hW2 : World.alloc w1 _ = w2 at *
  have hs12 : w2.heap.size = w1.heap.size + 1 := by rw [← hW2]; simp
  clear hW2
  have hbl2 := N2.out.blk.lt
  have HS := Lib.hid (show ∀ w', Below w2.heap.size w2 w' → (Below w2.heap.size w2 w' ∧ w'.cell? ⟨b, 8, none⟩ = some (.slice A pn pc) ∧ w'.cell? ⟨b, 5, none⟩ = some (.int .i64 s.now) ∧ w'.cell? ⟨w1.heap.size, 0, none⟩ = some (.string id) ∧ w'.cell? ⟨w1.heap.size, 1, none⟩ = some (.int .i64 i) ∧ w'.cell? ⟨w1.heap.size, 2, none⟩ = some (.int .i64 q))
    from fun w' h => ⟨h, (N2.out.blk.below h hbl2).cell 8, (N2.out.blk.below h hbl2).cell 5, (E1.out.below h).hd.cell 0, (E1.out.below h).hd.cell 1, (E1.out.below h).hd.cell 2⟩)
  have HP := Lib.hid (fun W (hw : Below w2.heap.size w2 W) => HP0.out W (BW.out.trans (hw.mono (by omega))))
  go_region_held3 (fun w' => Below w2.heap.size w2 w' ∧ w'.cell? ⟨b, 8, none⟩ = some (.slice A pn pc) ∧ w'.cell? ⟨b, 5, none⟩ = some (.int .i64 s.now) ∧ w'.cell? ⟨w1.heap.size, 0, none⟩ = some (.string id) ∧ w'.cell? ⟨w1.heap.size, 1, none⟩ = some (.int .i64 i) ∧ w'.cell? ⟨w1.heap.size, 2, none⟩ = some (.int .i64 q))
    ((refine HS.out _ ?_; repeat (first | (with_reducible exact hL3) | (with_reducible exact Below.refl _ _) | (with_reducible refine Below.al5 ?_) | (with_reducible refine Below.drew ?_))))
    ((go_at_call 143; (with_reducible refine (HP.out _ ?ia).mono ?_); (case ia => repeat (first | (with_reducible exact Below.refl _ _) | (with_reducible refine Below.al5 ?_) | (with_reducible refine Below.drew ?_))); rintro e' w3 ⟨rfl, hb3⟩; have hL3 : Below w2.heap.size w2 w3 := Below.thru5 (by repeat (first | (with_reducible exact Below.refl _ _) | (with_reducible refine Below.al5 ?_) | (with_reducible refine Below.drew ?_))) hb3))
  all_goals
    have E3 := Lib.hid (BW.out.trans (hL3.mono (by omega)))
    have N3 := Lib.hid (HoldIs.below HH.out E3.out)
    have hbl3 := N3.out.blk.lt
    have b7 := N3.out.blk.cell 7
    have f7 := N3.out.blk.frozen 7
    simp [nodeCs] at b7 f7
    have NS := Lib.hid (HoldIs.set (mk' := nodeCs s.c s.now s.seq (min (s.drops + 1) 1073741824)) N3.out 7 (.int .i64 (min (s.drops + 1) 1073741824)) rfl)
    have KS := Lib.hid ((Kept.of_below (X := X) E3.out).setCell (a := ⟨b, 7, none⟩) (.inl HH.out.xb) (.int .i64 (min (s.drops + 1) 1073741824)))
    clear hL3 hb3
    go_wp2
    refine bodyPost_ret (v := .tuple #[.slice none 0 0, .int .i64 4]) (by simp [results, Tryz.results114, go_sem]) rfl ?_
    exact .no (HoldIs.at_ (HoldIs.grow NS.out)) KS.out

set_option maxHeartbeats 1000000 in
set_option maxRecDepth 100000 in
theorem hr_old (h : NodeIs X w b A pn pc sv l s) (hg : NGood s) (x : ByteArray) {id : ByteArray} {i q : Int} (he : decR x = (id, i, q, 0)) (hb : beatE id i q = 0) (k : Nat) (hk : k < s.D.length) (hkid : (s.D[k]'hk).1 = id) (hnw : ¬ Newer (s.D[k]'hk).2.1.1 (s.D[k]'hk).2.1.2.1 i q) :
    Calls Tryz.prog 114 #[.pointer (some ⟨b, 0, none⟩), .string x] w (HrIs X b { s with D := heardO s.D k, drops := min (s.drops + 1) 1073741824 } [] 5 w) := by
  have HH := Lib.hid h
  have HG := Lib.hid hg
  have HX := Lib.hid h.xlt
  have hbl := h.blk.lt
  have hd0 := hg.drops0
  have hd1 := hg.drops1
  have hn0 := hg.now0
  have hn1 := hg.now1
  have HB := Lib.hid hb
  have hmm : pn ≤ maxLen := Nat.le_trans h.room.1 h.room.2
  have he0 : peersE l = 0 := by rw [peersE_map, h.map]; exact hg.ps.zero
  have HD := Lib.hid (fun W => dec_any x W)
  simp only [he] at HD
  have hkl : k < l.length := by have e := congrArg List.length h.map; rw [List.length_map] at e; omega
  have hD : s.D[k]'hk = (l[k]'hkl).1 := by simp only [← h.map, List.getElem_map]
  have hdl : (s.D[k]'hk).2.2.2.2 ≤ s.now := (hg.pv _ (List.getElem_mem hk)).2
  have hpd : pid (l[k]'hkl) = id := by rw [← hkid, hD]
  have HP0 := Lib.hid (show ∀ W, Below w.heap.size w W → Calls Tryz.prog 143 #[.slice A pn pc, .agg #[.string id, .int .i64 i, .int .i64 q], .int .i64 s.now] W (HearIs A l (heardO s.D k) pn false W) from fun W hw => by have hh := hear_old A pc w.heap.size pn l hmm id (by unfold maxLen; have := (beatE_zero HB.out).1; omega) i q s.now W (h.peers.below hw (Nat.le_refl _)) hw.size he0 hb hn0 hn1 k hkl hpd (by show (l[k]'hkl).1.2.2.2.2 ≤ s.now; rw [← hD]; exact hdl) (by show ¬ Newer (l[k]'hkl).1.2.1.1 (l[k]'hkl).1.2.1.2.1 i q; rw [← hD]; exact hnw); rw [h.map] at hh; simp only [pgd] at hh; rw [← hD] at hh; unfold heardO; rw [List.getElem?_eq_getElem hk]; exact hh)
  clear h hg he hb he0 hkid hnw hD hdl hpd
  go_enter Tryz.func114, Tryz.ntmps114
  go_wp2_with fail
  refine (HD.out _).mono ?_
  rintro e' w1 ⟨rfl, hb1⟩
  have N1 := Lib.hid (HoldIs.below HH.out hb1)
  have B1 := Lib.hid hb1
  have hs1 := hb1.size
  clear hb1
  have hid8 : id.size ≤ 8 := (beatE_zero HB.out).1
  have E1 := Lib.hid ((Env.start w1).lay #[.string id, .int .i64 i, .int .i64 q] 173)
  have N2 := Lib.hid (HoldIs.below N1.out E1.out.bel)
  have BW := Lib.hid (B1.out.trans (E1.out.bel.mono hs1))
  go_upto_region 18 with fail
  generalize hW2 : World.alloc w1 _ = w2 at *
  have hs12 : w2.heap.size = w1.heap.size + 1 := by rw [← hW2]; simp
  clear hW2
  have hbl2 := N2.out.blk.lt
  have HS := Lib.hid (show ∀ w', Below w2.heap.size w2 w' → (Below w2.heap.size w2 w' ∧ w'.cell? ⟨b, 8, none⟩ = some (.slice A pn pc) ∧ w'.cell? ⟨b, 5, none⟩ = some (.int .i64 s.now) ∧ w'.cell? ⟨w1.heap.size, 0, none⟩ = some (.string id) ∧ w'.cell? ⟨w1.heap.size, 1, none⟩ = some (.int .i64 i) ∧ w'.cell? ⟨w1.heap.size, 2, none⟩ = some (.int .i64 q))
    from fun w' h => ⟨h, (N2.out.blk.below h hbl2).cell 8, (N2.out.blk.below h hbl2).cell 5, (E1.out.below h).hd.cell 0, (E1.out.below h).hd.cell 1, (E1.out.below h).hd.cell 2⟩)
  have HP := Lib.hid (fun W (hw : Below w2.heap.size w2 W) => HP0.out W (BW.out.trans (hw.mono (by omega))))
  go_region_held3 (fun w' => Below w2.heap.size w2 w' ∧ w'.cell? ⟨b, 8, none⟩ = some (.slice A pn pc) ∧ w'.cell? ⟨b, 5, none⟩ = some (.int .i64 s.now) ∧ w'.cell? ⟨w1.heap.size, 0, none⟩ = some (.string id) ∧ w'.cell? ⟨w1.heap.size, 1, none⟩ = some (.int .i64 i) ∧ w'.cell? ⟨w1.heap.size, 2, none⟩ = some (.int .i64 q))
    ((refine HS.out _ ?_; repeat (first | (with_reducible exact hL3) | (with_reducible exact Below.refl _ _) | (with_reducible refine Below.al5 ?_) | (with_reducible refine Below.drew ?_))))
    ((go_at_call 143; (with_reducible refine (HP.out _ ?ia).mono ?_); (case ia => repeat (first | (with_reducible exact Below.refl _ _) | (with_reducible refine Below.al5 ?_) | (with_reducible refine Below.drew ?_))); rintro e' w3 ⟨A3, c3, l3, rfl, hm3, hp3, hb3, hr3, hk3⟩; have hL3 : Below w2.heap.size w2 w3 := Below.thru5 (by repeat (first | (with_reducible exact Below.refl _ _) | (with_reducible refine Below.al5 ?_) | (with_reducible refine Below.drew ?_))) hb3))
  all_goals
    have E3 := Lib.hid (BW.out.trans (hL3.mono (by omega)))
    have hbl3 : b < w3.heap.size := by have := E3.out.size; omega
    have N3 := Lib.hid (HoldIs.below HH.out E3.out)
    have HK3 := Lib.hid (keeps_from hk3 (by have := BW.out.size; first | exact this | (simp; omega)))
    have NT := Lib.hid (HoldIs.turn (mk' := nodeCs s.c s.now s.seq s.drops) (i := 8) HH.out E3.out hp3 hm3 hr3 HK3.out rfl)
    have KT := Lib.hid ((Kept.of_below (X := X) E3.out).setCell (a := ⟨b, 8, none⟩) (.inl HH.out.xb) (.slice A3 pn c3))
    have f8 := N3.out.blk.frozen 8
    have b7 := NT.out.blk.cell 7
    have f7 := NT.out.blk.frozen 7
    simp [nodeCs] at b7 f7 f8
    have NS := Lib.hid (HoldIs.set (mk' := nodeCs s.c s.now s.seq (min (s.drops + 1) 1073741824)) NT.out 7 (.int .i64 (min (s.drops + 1) 1073741824)) rfl)
    have KS := Lib.hid (KT.out.setCell (a := ⟨b, 7, none⟩) (.inl HH.out.xb) (.int .i64 (min (s.drops + 1) 1073741824)))
    clear hL3 hb3 hm3 hp3 hr3 hk3
    go_wp2
    refine bodyPost_ret (v := .tuple #[.slice none 0 0, .int .i64 5]) (by simp [results, Tryz.results114, go_sem]) rfl ?_
    exact .no (HoldAt.wide (HoldIs.at_ NS.out) (grow_of (by simp [World.setCell])) (fun k hk => hk.2)) KS.out

set_option maxHeartbeats 1000000 in
set_option maxRecDepth 100000 in
theorem hr_new (h : NodeIs X w b A pn pc sv l s) (hg : NGood s) (x : ByteArray) {id : ByteArray} {i q : Int} (he : decR x = (id, i, q, 0)) (hb : beatE id i q = 0) (k : Nat) (hk : k < s.D.length) (hkid : (s.D[k]'hk).1 = id) (hnw : Newer (s.D[k]'hk).2.1.1 (s.D[k]'hk).2.1.2.1 i q) (hg2 : NGood { s with D := heardN s.D k i q s.now }) :
    Calls Tryz.prog 114 #[.pointer (some ⟨b, 0, none⟩), .string x] w (HrIs X b (NSt.tell { s with D := heardN s.D k i q s.now }) (NSt.notes { s with D := heardN s.D k i q s.now }) 0 w) := by
  have HH := Lib.hid h
  have HG := Lib.hid hg
  have HX := Lib.hid h.xlt
  have hbl := h.blk.lt
  have hd0 := hg.drops0
  have hd1 := hg.drops1
  have hn0 := hg.now0
  have hn1 := hg.now1
  have HB := Lib.hid hb
  have hmm : pn ≤ maxLen := Nat.le_trans h.room.1 h.room.2
  have he0 : peersE l = 0 := by rw [peersE_map, h.map]; exact hg.ps.zero
  have HD := Lib.hid (fun W => dec_any x W)
  simp only [he] at HD
  have hkl : k < l.length := by have e := congrArg List.length h.map; rw [List.length_map] at e; omega
  have hD : s.D[k]'hk = (l[k]'hkl).1 := by simp only [← h.map, List.getElem_map]
  have hdl : (s.D[k]'hk).2.2.2.2 ≤ s.now := (hg.pv _ (List.getElem_mem hk)).2
  have hpd : pid (l[k]'hkl) = id := by rw [← hkid, hD]
  have HP0 := Lib.hid (show ∀ W, Below w.heap.size w W → Calls Tryz.prog 143 #[.slice A pn pc, .agg #[.string id, .int .i64 i, .int .i64 q], .int .i64 s.now] W (HearIs A l (heardN s.D k i q s.now) pn true W) from fun W hw => by have hh := hear_new A pc w.heap.size pn l hmm id (by unfold maxLen; have := (beatE_zero HB.out).1; omega) i q s.now W (h.peers.below hw (Nat.le_refl _)) hw.size he0 hb hn0 hn1 k hkl hpd (by show (l[k]'hkl).1.2.2.2.2 ≤ s.now; rw [← hD]; exact hdl) (by show Newer (l[k]'hkl).1.2.1.1 (l[k]'hkl).1.2.1.2.1 i q; rw [← hD]; exact hnw); rw [h.map] at hh; simp only [plast] at hh; rw [← hD] at hh; unfold heardN; rw [List.getElem?_eq_getElem hk]; exact hh)
  clear h hg he hb he0 hkid hnw hD hdl hpd
  have HG2 := Lib.hid hg2
  clear hg2
  go_enter Tryz.func114, Tryz.ntmps114
  go_wp2_with fail
  refine (HD.out _).mono ?_
  rintro e' w1 ⟨rfl, hb1⟩
  have N1 := Lib.hid (HoldIs.below HH.out hb1)
  have B1 := Lib.hid hb1
  have hs1 := hb1.size
  clear hb1
  have hid8 : id.size ≤ 8 := (beatE_zero HB.out).1
  have E1 := Lib.hid ((Env.start w1).lay #[.string id, .int .i64 i, .int .i64 q] 173)
  have N2 := Lib.hid (HoldIs.below N1.out E1.out.bel)
  have BW := Lib.hid (B1.out.trans (E1.out.bel.mono hs1))
  go_upto_region 18 with fail
  generalize hW2 : World.alloc w1 _ = w2 at *
  have hs12 : w2.heap.size = w1.heap.size + 1 := by rw [← hW2]; simp
  clear hW2
  have hbl2 := N2.out.blk.lt
  have HS := Lib.hid (show ∀ w', Below w2.heap.size w2 w' → (Below w2.heap.size w2 w' ∧ w'.cell? ⟨b, 8, none⟩ = some (.slice A pn pc) ∧ w'.cell? ⟨b, 5, none⟩ = some (.int .i64 s.now) ∧ w'.cell? ⟨w1.heap.size, 0, none⟩ = some (.string id) ∧ w'.cell? ⟨w1.heap.size, 1, none⟩ = some (.int .i64 i) ∧ w'.cell? ⟨w1.heap.size, 2, none⟩ = some (.int .i64 q))
    from fun w' h => ⟨h, (N2.out.blk.below h hbl2).cell 8, (N2.out.blk.below h hbl2).cell 5, (E1.out.below h).hd.cell 0, (E1.out.below h).hd.cell 1, (E1.out.below h).hd.cell 2⟩)
  have HP := Lib.hid (fun W (hw : Below w2.heap.size w2 W) => HP0.out W (BW.out.trans (hw.mono (by omega))))
  go_region_held3 (fun w' => Below w2.heap.size w2 w' ∧ w'.cell? ⟨b, 8, none⟩ = some (.slice A pn pc) ∧ w'.cell? ⟨b, 5, none⟩ = some (.int .i64 s.now) ∧ w'.cell? ⟨w1.heap.size, 0, none⟩ = some (.string id) ∧ w'.cell? ⟨w1.heap.size, 1, none⟩ = some (.int .i64 i) ∧ w'.cell? ⟨w1.heap.size, 2, none⟩ = some (.int .i64 q))
    ((refine HS.out _ ?_; repeat (first | (with_reducible exact hL3) | (with_reducible exact Below.refl _ _) | (with_reducible refine Below.al5 ?_) | (with_reducible refine Below.drew ?_))))
    ((go_at_call 143; (with_reducible refine (HP.out _ ?ia).mono ?_); (case ia => repeat (first | (with_reducible exact Below.refl _ _) | (with_reducible refine Below.al5 ?_) | (with_reducible refine Below.drew ?_))); rintro e' w3 ⟨A3, c3, l3, rfl, hm3, hp3, hb3, hr3, hk3⟩; have hL3 : Below w2.heap.size w2 w3 := Below.thru5 (by repeat (first | (with_reducible exact Below.refl _ _) | (with_reducible refine Below.al5 ?_) | (with_reducible refine Below.drew ?_))) hb3))
  all_goals
    have E3 := Lib.hid (BW.out.trans (hL3.mono (by omega)))
    have hbl3 : b < w3.heap.size := by have := E3.out.size; omega
    have N3 := Lib.hid (HoldIs.below HH.out E3.out)
    have HK3 := Lib.hid (keeps_from hk3 (by have := BW.out.size; first | exact this | (simp; omega)))
    have NT := Lib.hid (show NodeIs (grow X w w3) (w3.setCell ⟨b, 8, none⟩ (.slice A3 pn c3)) b A3 pn c3 sv l3 { s with D := heardN s.D k i q s.now } from HoldIs.turn (mk' := nodeCs s.c s.now s.seq s.drops) (i := 8) HH.out E3.out hp3 hm3 hr3 HK3.out rfl)
    have KT := Lib.hid ((Kept.of_below (X := X) E3.out).setCell (a := ⟨b, 8, none⟩) (.inl HH.out.xb) (.slice A3 pn c3))
    have f8 := N3.out.blk.frozen 8
    have hsz : (w3.setCell ⟨b, 8, none⟩ (.slice A3 pn c3)).heap.size = w3.heap.size := by simp [World.setCell]
    have hw3 := E3.out.size
    clear hL3 hb3 hm3 hp3 hr3 hk3
    go_wp2_with fail
    refine (told_any NT.out HG2.out).mono ?_
    rintro e' w6 ⟨A6, c6, rfl, hown6, hn6, hk6⟩
    have FIN := Lib.hid (show HrIs X b (NSt.tell { s with D := heardN s.D k i q s.now }) (NSt.notes { s with D := heardN s.D k i q s.now }) 0 w (.returned (.tuple #[.slice A6 (NSt.notes { s with D := heardN s.D k i q s.now }).length c6, .int .i64 0])) w6 from
      ⟨A6, c6, rfl, ownsRow_base hown6 (by rw [hsz]; exact hw3), HoldAt.wide (HoldIs.at_ hn6) (grow_of (by have := hk6.size; rw [hsz] at this; exact this)) (fun k hk => hk.2), KT.out.then hk6 (fun k hk => hk.1)⟩)
    clear hown6 hn6 hk6
    go_wp2
    exact bodyPost_ret (v := .tuple #[.slice A6 (NSt.notes { s with D := heardN s.D k i q s.now }).length c6, .int .i64 0]) (by simp [results, Tryz.results114, go_sem]) rfl FIN.out

theorem hear_any (h : NodeIs X w b A pn pc sv l s) (hg : NGood s) (x : ByteArray) :
    Calls Tryz.prog 114 #[.pointer (some ⟨b, 0, none⟩), .string x] w (HrIs X b (s.heard x) (s.hearN x) (s.hearE x) w) := by
  have hgm := hg.mid x
  obtain ⟨id, i, q, er, he⟩ : ∃ id i q er, decR x = (id, i, q, er) := ⟨_, _, _, _, rfl⟩
  unfold NSt.heard NSt.hearN NSt.hearE
  unfold NSt.mid at hgm ⊢
  have hkd : s.kind x = if er ≠ 0 then .no er else match idxOf s.D id with | none => .no 4 | some k => if isNew s.D k i q = true then .new k i q else .old k := by unfold NSt.kind; rw [he]; try rfl
  by_cases hz : er ≠ 0
  · rw [if_pos hz] at hkd
    rw [hkd]
    show Calls _ _ _ _ (HrIs X b (if er = 0 then s.drop.tell else s.drop) (if er = 0 then s.drop.notes else []) er w)
    rw [if_neg hz, if_neg hz]
    exact hr_dec h hg x he hz
  have hz := Classical.not_not.1 hz
  subst hz
  rw [if_neg (by simp)] at hkd
  have hb : beatE id i q = 0 := by have := decR_zero (s := x) (by rw [he]); rw [he] at this; exact this
  cases hi : idxOf s.D id with
  | none =>
    rw [hi] at hkd
    rw [hkd]
    show Calls _ _ _ _ (HrIs X b (if (4 : Int) = 0 then s.drop.tell else s.drop) (if (4 : Int) = 0 then s.drop.notes else []) 4 w)
    rw [if_neg (by decide), if_neg (by decide)]
    exact hr_none h hg x he hb hi
  | some k =>
    rw [hi] at hkd
    obtain ⟨hk, h1, h2⟩ := idx_some hi
    have hin : isNew s.D k i q = decide (Newer (s.D[k]'hk).2.1.1 (s.D[k]'hk).2.1.2.1 i q) := by unfold isNew; rw [List.getElem?_eq_getElem hk]
    by_cases hn : Newer (s.D[k]'hk).2.1.1 (s.D[k]'hk).2.1.2.1 i q
    · have hkd2 : s.kind x = .new k i q := by rw [hkd]; show (if isNew s.D k i q = true then HK.new k i q else HK.old k) = _; rw [hin, if_pos (by simpa using hn)]
      rw [hkd2] at hgm ⊢
      exact hr_new h hg x he hb k hk h1 hn hgm
    · have hkd2 : s.kind x = .old k := by rw [hkd]; show (if isNew s.D k i q = true then HK.new k i q else HK.old k) = _; rw [hin, if_neg (by simpa using hn)]
      rw [hkd2]
      exact hr_old h hg x he hb k hk h1 hn
end
end Go.Proofs.YthimchhnhhchkaaGreatDoor
