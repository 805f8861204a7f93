/- slices.IndexFunc over subs, walked for whatever closure over a name and a threshold. (with what it needs) -/
import Derived.Test.YtkgekhabafjpiabM43
namespace Go.Proofs.Ytkgekhabafjpiab
open Go.RowKit Go.Lib
set_option linter.unusedSimpArgs false
set_option linter.unusedVariables false

def tagg (s : TriD) : Value := .agg (tcells s).toArray
/-- the place of the first of which P holds, or -1 -/
def ixI (P : TriD → Bool) (S : List TriD) : Int := match S.findIdx? P with | some k => (k : Int) | none => -1

/-- a sub of that name and threshold -/
def isSub (id : ByteArray) (th : Int) (p : TriD) : Bool := eqB p.1 id && (p.2.1 == th)

/-- a closure over two boxes that asks P of a sub -/
def AsksJ (c1 c2 : Nat) (P : TriD → Bool) (w : World) : Prop := ∀ (p : TriD) (W : World), Below w.heap.size w W → Calls Try.prog 20 #[tagg p, .pointer (some ⟨c1, 0, none⟩), .pointer (some ⟨c2, 0, none⟩)] W fun e w' => e = .returned (.bool (P p)) ∧ Below W.heap.size W w'
set_option maxHeartbeats 2000000 in
set_option maxRecDepth 100000 in
theorem idxs_runJ (c1 c2 : Nat) (P : TriD → Bool) (g cap n : Nat) (S : List TriD) (hm : n ≤ 1000) (w : World) (hs : Row3 71 w g cap n S) (hc : AsksJ c1 c2 P w) :
    Calls Try.prog 39 #[.slice (some ⟨g, 0, none⟩) n cap, .func (.func 20) #[] #[.pointer (some ⟨c1, 0, none⟩), .pointer (some ⟨c2, 0, none⟩)]] w fun e w' => e = .returned (.int .i64 (ixI P S)) ∧ Below w.heap.size w w' := by
  have HS := Lib.hid hs
  have HN := Lib.hid hs.1
  have HC := Lib.hid hc
  have hgl := hs.lt
  have hncap := hs.2.1
  have hcap := hs.2.2.1
  unfold maxLen at hcap
  unfold AsksJ at HC
  simp only [tagg, tcells] at HC
  obtain ⟨r, hr⟩ : ∃ r, ixI P S = r := ⟨_, rfl⟩
  rw [hr]
  have HR := Lib.hid hr
  clear hs hc hr
  go_enter Try.func39, Try.ntmps39
  go_wp2_with fail
  go_loopw [8] (fun iv wr => ∃ k : Nat, k ≤ n ∧ iv = .int .i64 (k : Int) ∧ (∀ j, (hj : j < S.length) → j < k → P (S[j]'hj) = false) ∧ Below w.heap.size w wr) (fun iv _ => n - (RowKit.intOf iv).toNat)
  case atStart => exact ⟨0, by omega, rfl, fun j _ h => absurd h (Nat.not_lt_zero j), Below.refl _ _⟩
  case round =>
    obtain ⟨k, hk, rfl, hne, hbl⟩ := hrel
    obtain ⟨wo, rfl⟩ : ∃ wo, wo = wr := ⟨_, rfl⟩
    have BL := Lib.hid hbl
    have NE := Lib.hid hne
    clear hbl hne
    by_cases hlt : k < n
    · have hkl : k < S.length := by rw [HN.out]; exact hlt
      obtain ⟨d0, d1, d2⟩ := (HS.out.below BL.out hgl).cells k hkl
      have hglo : g < wo.heap.size := Nat.lt_of_lt_of_le hgl BL.out.size
      generalize hpe : S[k]'hkl = p at *
      have HPE := Lib.hid hpe
      clear hpe
      go_wp2_with fail
      refine (HC.out p _ BL.out).mono ?_
      rintro e' w1 ⟨rfl, hb1⟩
      have BL1 := Lib.hid (BL.out.trans (hb1.mono BL.out.size))
      clear hb1
      cases hq : P p
      · have HNX := Lib.hid (show ∀ j, (hj : j < S.length) → j < k + 1 → P (S[j]'hj) = false from fun j hj h => by
          rcases Nat.lt_succ_iff_lt_or_eq.1 h with h | rfl
          · exact NE.out j hj h
          · rw [HPE.out]; exact hq)
        clear hq
        go_wp2
        exact ⟨⟨k + 1, by omega, by simp, HNX.out, BL1.out⟩, by simp [RowKit.intOf]; omega⟩
      · have hrk : r = (k : Int) := by
          rw [← HR.out]
          unfold ixI
          have : S.findIdx? P = some k := by
            rw [List.findIdx?_eq_some_iff_getElem]
            exact ⟨hkl, by rw [HPE.out]; exact hq, fun j hj => by rw [NE.out j (by omega) hj]; decide⟩
          rw [this]
        subst hrk
        clear hq
        go_wp2
        go_ret
        exact ⟨rfl, BL1.out⟩
    · have hrn : r = -1 := by
        rw [← HR.out]
        unfold ixI
        have : S.findIdx? P = none := by
          rw [List.findIdx?_eq_none_iff]
          intro x hx
          obtain ⟨j, hj, rfl⟩ := List.getElem_of_mem hx
          rw [NE.out j hj (by have := HN.out; omega)]
        rw [this]
      subst hrn
      go_wp2
      go_ret
      exact ⟨rfl, BL.out⟩

set_option maxHeartbeats 2000000 in
set_option maxRecDepth 100000 in
theorem idxs_nilJ (c1 c2 : Nat) (w : World) :
    Calls Try.prog 39 #[.slice none 0 0, .func (.func 20) #[] #[.pointer (some ⟨c1, 0, none⟩), .pointer (some ⟨c2, 0, none⟩)]] w fun e w' => e = .returned (.int .i64 (-1)) ∧ Below w.heap.size w w' := by
  go_enter Try.func39, Try.ntmps39
  go_wp2_with fail
  go_loop [8] (fun iv => iv = .int .i64 0) (fun iv => 0)
  case atStart => rfl
  case round =>
    obtain rfl := hrel
    go_wp2
    go_ret
    exact ⟨rfl, Below.refl _ _⟩
theorem idxs_anyJ (c1 c2 : Nat) (P : TriD → Bool) (sv : Value) (S : List TriD) (hm : S.length ≤ 1000) (w : World) (hs : SubsAt w sv S) (hc : AsksJ c1 c2 P w) :
    Calls Try.prog 39 #[sv, .func (.func 20) #[] #[.pointer (some ⟨c1, 0, none⟩), .pointer (some ⟨c2, 0, none⟩)]] w fun e w' => e = .returned (.int .i64 (ixI P S)) ∧ Below w.heap.size w w' := by
  rcases hs with ⟨rfl, rfl⟩ | ⟨g, cap, n, rfl, h⟩
  · exact idxs_nilJ c1 c2 w
  · exact idxs_runJ c1 c2 P g cap n S (by rw [← h.1]; exact hm) w h hc

set_option maxHeartbeats 2000000 in
set_option maxRecDepth 100000 in
theorem has_anyJ (c1 c2 : Nat) (P : TriD → Bool) (sv : Value) (S : List TriD) (hm : S.length ≤ 1000) (w : World) (hs : SubsAt w sv S) (hc : AsksJ c1 c2 P w) :
    Calls Try.prog 19 #[sv, .func (.func 20) #[] #[.pointer (some ⟨c1, 0, none⟩), .pointer (some ⟨c2, 0, none⟩)]] w fun e w' => e = .returned (.bool (decide (0 ≤ ixI P S))) ∧ Below w.heap.size w w' := by
  have HI := Lib.hid (idxs_anyJ c1 c2 P sv S hm w hs hc)
  have hn := hs.own
  obtain ⟨A, c, rfl⟩ := ownsRow_len hn
  generalize ixI P S = r at *
  clear hn hs hc
  go_enter Try.func19, Try.ntmps19
  go_wp2_with fail
  refine HI.out.mono ?_
  rintro e' w1 ⟨rfl, hb1⟩
  have B1 := Lib.hid hb1
  clear hb1
  go_wp2
  go_ret
  exact ⟨rfl, B1.out⟩
set_option maxHeartbeats 2000000 in
set_option maxRecDepth 100000 in
theorem join1_asksJ (c1 c2 : Nat) (id : ByteArray) (th : Int) (w : World) (h1 : Blk w c1 9 #[.string id]) (h2 : Blk w c2 3 #[.int .i64 th]) : AsksJ c1 c2 (isSub id th) w := by
  intro p W hW
  have x1 := (h1.below hW h1.lt).cell 0
  have x2 := (h2.below hW h2.lt).cell 0
  simp at x1 x2
  have hl1 := Nat.lt_of_lt_of_le h1.lt hW.size
  have hl2 := Nat.lt_of_lt_of_le h2.lt hW.size
  have E := Lib.hid ((Env.start W).lay (tcells p).toArray 71)
  simp only [tcells] at E
  obtain ⟨pi, pt, pb⟩ := p
  unfold isSub tagg tcells
  clear hW h1 h2
  cases hq : eqB pi id
  · have hq2 : (pi.toList == id.toList) = false := hq
    clear hq
    go_enter Try.func20, Try.ntmps20
    go_wp2
    go_ret
    exact ⟨rfl, E.out.bel⟩
  · have hq2 : (pi.toList == id.toList) = true := hq
    clear hq
    go_enter Try.func20, Try.ntmps20
    go_wp2
    go_ret
    exact ⟨rfl, E.out.bel⟩

























































































































end Go.Proofs.Ytkgekhabafjpiab

namespace Go.Proofs.Ytkgekhabafjpiab
open Go.RowKit Go.Lib
set_option linter.unusedSimpArgs false
set_option linter.unusedVariables false

section
variable {X : Nat → Prop} {w : World} {b pn pc : Nat} {A : Option Addr} {sv : Value} {l : List PeerT} {s : NSt}
theorem nlv_core (hb : Blk w b 64 (nodeCs s.c s.now s.seq s.drops (.slice A pn pc) sv)) (hp : Peers w w.heap.size A pn l) (hm : l.map Prod.fst = s.D) (hg : NGood s) (id : ByteArray) :
    Calls Try.prog 18 #[.pointer (some ⟨b, 0, none⟩), .string id] w (LvIs (s.lv id) (lvEr s.D id) w) := by
  have hn : pn ≤ 1000 := by have := hg.ps.six; have := hp.len; have e := congrArg List.length hm; rw [List.length_map] at e; omega
  have hl : l.length = s.D.length := by rw [← hm, List.length_map]
  have hget : ∀ j, (hj : j < l.length) → (s.D[j]'(by omega)) = (l[j]'hj).1 := fun j hj => by simp only [← hm, List.getElem_map]
  unfold NSt.lv lvOf lvEr
  rw [fnd_idx]
  cases hi : idxOf s.D id with
  | none =>
    have hno := idx_none hi
    exact nlv_none b pn pc A s.c s.now s.seq s.drops sv l hn id (fun j hj e => hno j (by omega) (by rw [hget j hj]; exact e)) w hb hp
  | some k =>
    obtain ⟨hk, h1, h2⟩ := idx_some hi
    have hkl : k < l.length := by omega
    have e : s.D[k]? = some (l[k]'hkl).1 := by rw [List.getElem?_eq_getElem hk, hget k hkl]
    show Calls _ _ _ _ (LvIs (match s.D[k]? with | some d => plv (cfl s.c) s.now d | none => 0) (match s.D[k]? with | some _ => 0 | none => 4) w)
    rw [e]
    exact nlv_some b pn pc A s.c s.now s.seq s.drops sv l hn id k hkl (by rw [hget k hkl] at h1; exact h1) (fun j hj hjk e => h2 j (by omega) hjk (by rw [hget j hj]; exact e))
      (by rw [← hget k hkl]; exact hg.pl _ (List.getElem_mem hk)) hg.now0 hg.now1 w hb hp
theorem nlv_any (h : NodeIs X w b A pn pc sv l s) (hg : NGood s) (id : ByteArray) :
    Calls Try.prog 18 #[.pointer (some ⟨b, 0, none⟩), .string id] w (LvIs (s.lv id) (lvEr s.D id) w) := nlv_core h.blk h.peers h.map hg id
/-- the answer of told -/
def TellIs (X : Nat → Prop) (b : Nat) (A : Option Addr) (pn pc : Nat) (sv : Value) (l : List PeerT) (s : NSt) (w : World) (e : Ending) (w' : World) : Prop :=
  ∃ A' c', e = .returned (.slice A' s.notes.length c') ∧ w'.ownsRow w.heap.size 41 3 (.slice A' s.notes.length c') s.notes.length (cells3 s.notes) ∧ NodeIs X w' b A pn pc sv l s.tell ∧ Kept X w w'

set_option maxHeartbeats 400000 in
set_option maxRecDepth 100000 in
theorem told_none (b : Nat) (A : Option Addr) (c : CfgD) (now seq drops : Int) (w : World) (hb : Blk w b 64 (nodeCs c now seq drops (.slice A pn pc) (.slice none 0 0))) :
    Calls Try.prog 21 #[.pointer (some ⟨b, 0, none⟩)] w fun e w' => e = .returned (.slice none 0 0) ∧ w = w' := by
  have HB := Lib.hid hb
  have hbl := hb.lt
  have b9 := hb.cell 9
  simp [nodeCs] at b9
  clear hb
  go_enter Try.func21, Try.ntmps21
  go_wp2_with fail
  go_loop [3, 14] (fun v iv => v = .slice none 0 0 ∧ iv = .int .i64 0) (fun _ iv => 0)
  case atStart => exact ⟨rfl, rfl⟩
  case round =>
    obtain ⟨rfl, rfl⟩ := hrel
    go_wp2
    go_ret
    exact ⟨rfl, rfl⟩
theorem told_any (h : NodeIs X w b A pn pc sv l s) (hg : NGood s) :
    Calls Try.prog 21 #[.pointer (some ⟨b, 0, none⟩)] w (TellIs X b A pn pc sv l s w) := by
  rcases h.subs with ⟨hsv, hS⟩ | ⟨g, cap, n, hsv, hr⟩
  · subst hsv
    refine (told_none b A s.c s.now s.seq s.drops w h.blk).mono ?_
    rintro e w' ⟨rfl, rfl⟩
    have e1 : s.notes = [] := by unfold NSt.notes; rw [hS]; rfl
    have e2 : s.tell = s := by unfold NSt.tell; rw [hS]; show ({ s with S := [] } : NSt) = s; rw [← hS]
    rw [show TellIs X b A pn pc (.slice none 0 0) l s w _ w = ∃ A' c', _ from rfl, e1, e2]
    exact ⟨none, 0, rfl, World.ownsRow_nil _ _ _ _, h, Kept.refl _ _⟩
  · subst hsv
    have hbg : b ≠ g := fun e => (h.xs g rfl).2 e.symm
    have hn : n ≤ 8 := by rw [← hr.1]; exact hg.eight
    refine (told_run b g cap n pn pc A s.c s.now s.seq s.drops s.S s.lv hn hbg w h.blk hr ?_).mono ?_
    · intro W id hk
      exact ⟨_, nlv_core (hk.blk h.blk hbg) ((hk.peers h.peers (h.far.mono fun k hy hx => hy.2.2 (by simp only [Value.ownBlock]; rw [hx]))).more hk.size) h.map hg id⟩
    · rintro e w' ⟨A', c', rfl, h1, h2, h3⟩
      exact ⟨A', c', rfl, h1, h.mark h3 h2, h3.mono fun k hk => .inl (hk ▸ (h.xs g rfl).1)⟩
end
end Go.Proofs.Ytkgekhabafjpiab
