/- node.Hear, walked. -/
import Derived.Test.YtkgekhabafjpiabM44
import Derived.Test.YtkgekhabafjpiabM31
import Derived.Test.YtkgekhabafjpiabM39
namespace Go.Proofs.Ytkgekhabafjpiab
open Go.RowKit Go.Lib
set_option linter.unusedSimpArgs false
set_option linter.unusedVariables false

/-- one drop more -/
def NSt.drop (s : NSt) : NSt := { s with drops := min (s.drops + 1) 1073741824 }
/-- peers after a beat of the k-th that is let through, and of one that is not -/
def heardN (D : List PeerD) (k : Nat) (i q now : Int) : List PeerD := match D[k]? with | some d => D.set k (newD d i q (min (now - d.2.2.2.2) 16777216) now) | none => D
def heardO (D : List PeerD) (k : Nat) : List PeerD := match D[k]? with | some d => D.set k (oldD d (min (d.2.1.2.2 + 1) 1073741824)) | none => D
def isNew (D : List PeerD) (k : Nat) (i q : Int) : Bool := match D[k]? with | some d => decide (Newer d.2.1.1 d.2.1.2.1 i q) | none => false
/-- what Hear makes of a text: 0: nothing but a drop (the error), 1: known, not let through, 2: let through -/
inductive HK | no (e : Int) | old (k : Nat) | new (k : Nat) (i q : Int)
def NSt.kind (s : NSt) (x : ByteArray) : HK :=
  if (decR x).2.2.2 ≠ 0 then .no (decR x).2.2.2 else match idxOf s.D (decR x).1 with
  | none => .no 4
  | some k => if isNew s.D k (decR x).2.1 (decR x).2.2.1 = true then .new k (decR x).2.1 (decR x).2.2.1 else .old k
def NSt.hearE (s : NSt) (x : ByteArray) : Int := match s.kind x with | .no e => e | .old _ => 5 | .new _ _ _ => 0
def NSt.mid (s : NSt) (x : ByteArray) : NSt := match s.kind x with | .no _ => s.drop | .old k => { s with D := heardO s.D k, drops := min (s.drops + 1) 1073741824 } | .new k i q => { s with D := heardN s.D k i q s.now }
def NSt.heard (s : NSt) (x : ByteArray) : NSt := if s.hearE x = 0 then (s.mid x).tell else s.mid x
def NSt.hearN (s : NSt) (x : ByteArray) : List TriD := if s.hearE x = 0 then (s.mid x).notes else []
theorem NGood.drop {s : NSt} (h : NGood s) : NGood s.drop :=
  ⟨h.id, h.cfg, h.now0, h.now1, h.seqs, by have := h.drops0; show 0 ≤ min (s.drops + 1) 1073741824; omega, by show min (s.drops + 1) 1073741824 ≤ 1073741824; omega, h.ps, h.pv, h.eight, h.th⟩
theorem set_pw {D : List PeerD} {k : Nat} {d' : PeerD} (h : PsOk D) (hk : k < D.length) (hid : d'.1 = (D[k]'hk).1) (hg : DGood d') : PsOk (D.set k d') := by
  refine ⟨by rw [List.length_set]; exact h.six, fun d hd => ?_, ?_⟩
  · rcases List.mem_or_eq_of_mem_set hd with hd | rfl
    · exact h.good d hd
    · exact hg
  · have hp := h.asc
    rw [List.pairwise_iff_getElem] at hp ⊢
    intro i j hi hj hij
    rw [List.length_set] at hi hj
    have e : ∀ i, (hi : i < D.length) → ((D.set k d')[i]'(by rw [List.length_set]; exact hi)).1 = (D[i]'hi).1 := fun i hi => by
      rw [List.getElem_set]
      split
      · rename_i h; subst h; exact hid
      · rfl
    have := hp i j hi hj hij
    unfold DLess at this ⊢
    rw [e i hi, e j hj]; exact this
theorem pushV_le {cap x : Int} {v : List Int} (hw : winE cap v = 0) (h1 : 1 ≤ v.length) (hx : wi x 0 16777216 = true) : winE cap (pushV cap v x) = 0 ∧ 1 ≤ (pushV cap v x).length := by
  obtain ⟨c0, c1, c2, c3⟩ := winE_zero hw
  have hx0 : offI x = false := by unfold offI; rw [hx]; rfl
  have hall : ∀ y ∈ v, offI y = false := by
    unfold listE at c3
    split at c3
    · cases c3
    split at c3
    · cases c3
    · rename_i h; simpa using h
  have main : ∀ u : List Int, (∀ y ∈ u, offI y = false) → (u.length : Int) ≤ cap → winE cap u = 0 := fun u hu hl => by
    unfold winE
    rw [if_pos (wi_true.2 ⟨c0, c1⟩), if_neg (by omega)]
    unfold listE
    rw [if_neg (by omega), if_neg (by simpa using hu)]
  unfold pushV
  split
  · rename_i h
    exact ⟨main _ (fun y hy => by rcases List.mem_append.1 hy with hy | hy; exact hall y hy; rw [List.mem_singleton.1 hy]; exact hx0) (by simp; omega), by simp⟩
  · rename_i h
    exact ⟨main _ (fun y hy => by rcases List.mem_append.1 hy with hy | hy; exact hall y (List.mem_of_mem_tail hy); rw [List.mem_singleton.1 hy]; exact hx0) (by simp; omega), by simp⟩
theorem good_new {d : PeerD} {i q now : Int} (h : DGood d) (h1 : 1 ≤ d.2.2.2.1.length) (hb : BeatNo i q) (hl : d.2.2.2.2 ≤ now) (h0 : 0 ≤ now) (hn : now ≤ 1073741824) : DGood (newD d i q (min (now - d.2.2.2.2) 16777216) now) ∧ 1 ≤ (newD d i q (min (now - d.2.2.2.2) 16777216) now).2.2.2.1.length := by
  obtain ⟨g1, g2, g3, g4, g5⟩ := h
  have hp := pushV_le (cap := d.2.2.1) (x := min (now - d.2.2.2.2) 16777216) (v := d.2.2.2.1) g3 h1 (wi_true.2 ⟨by omega, by omega⟩)
  refine ⟨⟨g1, ?_, hp.1, h0, hn⟩, hp.2⟩
  show GateOk i q d.2.1.2.2
  unfold GateOk BeatNo at *
  have e : GateOk d.2.1.1 d.2.1.2.1 d.2.1.2.2 := g2
  unfold GateOk at e
  omega
theorem good_old {d : PeerD} (h : DGood d) : DGood (oldD d (min (d.2.1.2.2 + 1) 1073741824)) := by
  obtain ⟨g1, g2, g3, g4, g5⟩ := h
  refine ⟨g1, ?_, g3, g4, g5⟩
  show GateOk d.2.1.1 d.2.1.2.1 (min (d.2.1.2.2 + 1) 1073741824)
  have e : GateOk d.2.1.1 d.2.1.2.1 d.2.1.2.2 := g2
  unfold GateOk at e ⊢
  omega
theorem beatNo_of {b : ByteArray} {i q : Int} (h : beatE b i q = 0) : BeatNo i q := beatE_ok h
theorem NGood.mid {s : NSt} (h : NGood s) (x : ByteArray) : NGood (s.mid x) := by
  unfold NSt.mid NSt.kind
  by_cases he : (decR x).2.2.2 ≠ 0
  · rw [if_pos he]; exact h.drop
  rw [if_neg he]
  have hz : (decR x).2.2.2 = 0 := Classical.not_not.1 he
  cases hi : idxOf s.D (decR x).1 with
  | none => exact h.drop
  | some k =>
    obtain ⟨hk, h1, h2⟩ := idx_some hi
    have ek : s.D[k]? = some (s.D[k]'hk) := List.getElem?_eq_getElem hk
    have hm := List.getElem_mem hk
    have hgd := h.ps.good _ hm
    have hpv := h.pv _ hm
    by_cases hn : isNew s.D k (decR x).2.1 (decR x).2.2.1 = true
    · show NGood (match (if isNew s.D k (decR x).2.1 (decR x).2.2.1 = true then HK.new k (decR x).2.1 (decR x).2.2.1 else HK.old k) with | .no _ => s.drop | .old k => _ | .new k i q => _)
      rw [if_pos hn]
      have e : heardN s.D k (decR x).2.1 (decR x).2.2.1 s.now = s.D.set k (newD (s.D[k]'hk) (decR x).2.1 (decR x).2.2.1 (min (s.now - (s.D[k]'hk).2.2.2.2) 16777216) s.now) := by unfold heardN; rw [ek]
      have hgn := good_new hgd hpv.1 (beatNo_of (decR_zero hz)) hpv.2 h.now0 h.now1
      refine ⟨h.id, h.cfg, h.now0, h.now1, h.seqs, h.drops0, h.drops1, ?_, ?_, h.eight, h.th⟩
      · show PsOk (heardN _ _ _ _ _); rw [e]; exact set_pw h.ps hk rfl hgn.1
      · show ∀ d ∈ heardN _ _ _ _ _, _
        rw [e]
        intro d hd
        rcases List.mem_or_eq_of_mem_set hd with hd | rfl
        · exact h.pv d hd
        · exact ⟨hgn.2, Int.le_refl _⟩
    · show NGood (match (if isNew s.D k (decR x).2.1 (decR x).2.2.1 = true then HK.new k (decR x).2.1 (decR x).2.2.1 else HK.old k) with | .no _ => s.drop | .old k => _ | .new k i q => _)
      rw [if_neg hn]
      have e : heardO s.D k = s.D.set k (oldD (s.D[k]'hk) (min ((s.D[k]'hk).2.1.2.2 + 1) 1073741824)) := by unfold heardO; rw [ek]
      have hd2 := h.drop
      refine ⟨h.id, h.cfg, h.now0, h.now1, h.seqs, hd2.drops0, hd2.drops1, ?_, ?_, h.eight, h.th⟩
      · show PsOk (heardO _ _); rw [e]; exact set_pw h.ps hk rfl (good_old hgd)
      · show ∀ d ∈ heardO _ _, _
        rw [e]
        intro d hd
        rcases List.mem_or_eq_of_mem_set hd with hd | rfl
        · exact h.pv d hd
        · exact hpv
theorem NGood.heard {s : NSt} (h : NGood s) (x : ByteArray) : NGood (s.heard x) := by
  unfold NSt.heard
  split
  · exact (h.mid x).tell
  · exact h.mid x
end Go.Proofs.Ytkgekhabafjpiab
