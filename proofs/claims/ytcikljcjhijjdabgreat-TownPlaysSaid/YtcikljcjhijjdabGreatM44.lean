/- hwref: Leave, walked. (with what it needs) -/
import Derived.Test.YtcikljcjhijjdabGreatM43
import Derived.Test.YtcikljcjhijjdabGreatM39
import Derived.Test.YtcikljcjhijjdabGreatM42
import Derived.Test.YtcikljcjhijjdabGreatM31
namespace Go.Proofs.YtcikljcjhijjdabGreat
open Go.RowKit Go.Lib
set_option linter.unusedSimpArgs false
set_option linter.unusedVariables false









theorem filter_snoc_no {S : List TriD} {id : ByteArray} {k : Nat} (hk : k < S.length) (he : eqB (S[k]'hk).1 id = true) : (S.take (k + 1)).filter (notOf id) = (S.take k).filter (notOf id) := take_filter_skip hk (by unfold notOf; rw [he]; rfl)
theorem filter_snoc_yes {S : List TriD} {id : ByteArray} {k : Nat} (hk : k < S.length) (he : eqB (S[k]'hk).1 id = false) : (S.take (k + 1)).filter (notOf id) = (S.take k).filter (notOf id) ++ [S[k]'hk] := take_filter_keep hk (by unfold notOf; rw [he]; rfl)
/-- while the subs that stay are collected -/
def FRel (w4 : World) (S : List TriD) (id : ByteArray) (k : Nat) (v : Value) (wr : World) : Prop :=
  wr.ownsRow w4.heap.size 92 3 v ((S.take k).filter (notOf id)).length (cells3 ((S.take k).filter (notOf id))) ∧ Below w4.heap.size w4 wr
theorem FRel.skip {w4 wr w1 : World} {S : List TriD} {id : ByteArray} {k : Nat} {v : Value} (h : FRel w4 S id k v wr) (hb : Below wr.heap.size wr w1) (hk : k < S.length) (he : eqB (S[k]'hk).1 id = true) : FRel w4 S id (k + 1) v w1 := by
  unfold FRel
  rw [filter_snoc_no hk he]
  exact ⟨ownsRow_below h.1 hb, h.2.trans (hb.mono h.2.size)⟩
theorem FRel.keep {w4 wr w1 w2 : World} {S : List TriD} {id : ByteArray} {k : Nat} {v v' : Value} (h : FRel w4 S id k v wr) (hb : Below wr.heap.size wr w1) (hb2 : Below w4.heap.size w1 w2) (hk : k < S.length) (he : eqB (S[k]'hk).1 id = false)
    (ho : w2.ownsRow w4.heap.size 92 3 v' (((S.take k).filter (notOf id)).length + 1) (cells3 ((S.take k).filter (notOf id)) ++ cells3 [S[k]'hk])) : FRel w4 S id (k + 1) v' w2 := by
  unfold FRel
  rw [filter_snoc_yes hk he, cells3_app, List.length_append]
  exact ⟨ho, (h.2.trans (hb.mono h.2.size)).trans hb2⟩

section
variable {X : Nat → Prop} {w : World} {b pn pc : Nat} {A : Option Addr} {sv : Value} {l : List PeerT} {s : NSt}





























































































































































end
end Go.Proofs.YtcikljcjhijjdabGreat

namespace Go.Proofs.YtcikljcjhijjdabGreat
open Go.RowKit Go.Lib
set_option linter.unusedSimpArgs false
set_option linter.unusedVariables false

theorem reads3_head {w : World} {B n k : Nat} {A : Option Addr} {S : List TriD} (h : Reads w B 3 A n (cells3 S)) (hl : S.length = n) (hk : k ≤ n) : Reads w B 3 A k (cells3 (S.take k)) := by
  refine ⟨by rw [cells3_len, List.length_take]; omega, fun hn => ?_⟩
  obtain ⟨ad, e, hb, hc⟩ := h.2 (by omega)
  refine ⟨ad, e, hb, fun j u hj => hc j u ?_⟩
  rw [← cells3_take, List.getElem?_take] at hj
  split at hj
  · exact hj
  · cases hj



















section
variable {X : Nat → Prop} {w : World} {b pn pc : Nat} {A : Option Addr} {sv : Value} {l : List PeerT} {s : NSt}































































































end
end Go.Proofs.YtcikljcjhijjdabGreat

namespace Go.Proofs.YtcikljcjhijjdabGreat
open Go.RowKit Go.Lib
set_option linter.unusedSimpArgs false
set_option linter.unusedVariables false

def cellsZ (l : List Int) : List Value := l.map fun x => .int .i64 x
def atZ (l : List Int) (i : Nat) : Int := l.getD i 0
def pickT (l : List ByteArray) (i : Int) : ByteArray := if l.length = 0 then ByteArray.empty else l.getD ((i % 18446744073709551616).toNat % l.length) ByteArray.empty

theorem rnode_new {c : CfgD} {w : World} {b : Nat} (h : Blk w b 73 (rnodeCs c 0 0 (.slice none 0 0) (.slice none 0 0))) : RNodeAt (· = b) w b (NSt.start c) :=
  ⟨none, 0, 0, .slice none 0 0, [], h, ⟨rfl, Reads.none_, by simp⟩, rfl, ⟨Nat.le_refl _, Nat.zero_le _⟩, .inl ⟨rfl, rfl⟩, rfl, (fun g hg => by cases hg), ⟨fun h => by simp at h, by simp⟩, fun k hk => hk ▸ h.lt⟩

set_option maxHeartbeats 1000000 in
set_option maxRecDepth 100000 in
theorem at_any (A : Option Addr) (c B n i : Nat) (l : List Int) (hl : l.length = n) (hi : i ≤ 1000) (w : World) (hp : Reads w B 1 A n (cellsZ l)) :
    Calls Tryz.prog 7 #[.slice A n c, .int .i64 i] w fun e w' => e = .returned (.int .i64 (atZ l i)) ∧ Below w.heap.size w w' := by
  by_cases h : i < n
  · have hkl : i < l.length := by rw [hl]; exact h
    obtain ⟨b, off, rfl, hb, hcs⟩ := hp.addr (by omega)
    have c0 := hcs i (.int .i64 (l[i]'hkl)) (by simp [cellsZ, hkl])
    have e0 : atZ l i = l[i]'hkl := by unfold atZ; simp [hkl]
    rw [e0]
    generalize l[i]'hkl = p at *
    clear hcs hp hl e0
    go_enter Tryz.func7, Tryz.ntmps7
    go_wp2
    go_ret
    exact ⟨rfl, Below.refl _ _⟩
  · have e0 : atZ l i = 0 := by unfold atZ; simp; rw [List.getElem?_eq_none (by omega)]; rfl
    rw [e0]
    clear hp hl e0
    go_enter Tryz.func7, Tryz.ntmps7
    go_wp2
    go_ret
    exact ⟨rfl, Below.refl _ _⟩

end Go.Proofs.YtcikljcjhijjdabGreat

namespace Go.Proofs.YtcikljcjhijjdabGreat
open Go.RowKit Go.Lib
set_option linter.unusedSimpArgs false
set_option linter.unusedVariables false

set_option maxHeartbeats 400000 in
set_option maxRecDepth 100000 in
theorem pick_core (b off n c j : Nat) (i : Int) (p : ByteArray) (w : World) (c0 : w.cell? ⟨b, off + j, none⟩ = some (.string p)) (hn : ¬ n = 0)
    (hn0 : ¬ ((n : Int) = 0)) (h3 : (IntKind.u64.wrap i).tmod (n : Int) = (j : Int)) (h5 : wrap64 (j : Int) = (j : Int)) (h6 : (j : Int) < n) (h7 : j < n) (hw1 : IntKind.u64.wrap (n : Int) = n) :
    Calls Tryz.prog 8 #[.slice (some ⟨b, off, none⟩) n c, .int .i64 i] w fun e w' => e = .returned (.string p) ∧ Below w.heap.size w w' := by
  go_enter Tryz.func8, Tryz.ntmps8
  go_wp2
  go_ret
  exact ⟨rfl, Below.refl _ _⟩
set_option maxHeartbeats 400000 in
set_option maxRecDepth 100000 in
theorem pick_nil (A : Option Addr) (c : Nat) (i : Int) (w : World) :
    Calls Tryz.prog 8 #[.slice A 0 c, .int .i64 i] w fun e w' => e = .returned (.string ByteArray.empty) ∧ Below w.heap.size w w' := by
  go_enter Tryz.func8, Tryz.ntmps8
  go_wp2
  go_ret
  exact ⟨rfl, Below.refl _ _⟩
theorem wrap64_nat (j : Nat) (h : j ≤ 9223372036854775807) : wrap64 (j : Int) = (j : Int) := by unfold wrap64; omega
theorem wrapu_nat (j : Nat) (h : j ≤ 9223372036854775807) : IntKind.u64.wrap (j : Int) = (j : Int) := by rw [IntKind.wrap_u64]; omega
theorem tmod_pick (i : Int) (n : Nat) : (IntKind.u64.wrap i).tmod (n : Int) = (((i % 18446744073709551616).toNat % n : Nat) : Int) := by
  rw [IntKind.wrap_u64]
  have h : 0 ≤ i % 18446744073709551616 := Int.emod_nonneg _ (by decide)
  generalize i % 18446744073709551616 = x at *
  rw [Int.tmod_eq_emod_of_nonneg h, Int.natCast_emod, Int.toNat_of_nonneg h]
theorem pick_any (A : Option Addr) (c B n : Nat) (i : Int) (l : List ByteArray) (hl : l.length = n) (hm : n ≤ 9223372036854775807) (w : World) (hp : Reads w B 1 A n (cellsTx l)) :
    Calls Tryz.prog 8 #[.slice A n c, .int .i64 i] w fun e w' => e = .returned (.string (pickT l i)) ∧ Below w.heap.size w w' := by
  by_cases h : n = 0
  · subst h
    have e0 : pickT l i = ByteArray.empty := by unfold pickT; rw [if_pos hl]
    rw [e0]
    exact pick_nil A c i w
  · have hjn : (i % 18446744073709551616).toNat % n < n := Nat.mod_lt _ (Nat.pos_of_ne_zero h)
    have ht := tmod_pick i n
    have e1 : pickT l i = l.getD ((i % 18446744073709551616).toNat % n) ByteArray.empty := by unfold pickT; rw [if_neg (fun e => h (hl.symm.trans e)), hl]
    generalize (i % 18446744073709551616).toNat % n = j at *
    have hkl : j < l.length := by rw [hl]; exact hjn
    obtain ⟨b, off, rfl, hb, hcs⟩ := hp.addr (Nat.pos_of_ne_zero h)
    have c0 := hcs j (.string (l[j]'hkl)) (by simp [cellsTx, hkl])
    have e0 : l.getD j ByteArray.empty = l[j]'hkl := by simp [hkl]
    rw [e1, e0]
    exact pick_core b off n c j i _ w c0 h (fun e => h (Int.ofNat_eq_zero.1 e)) ht (wrap64_nat j (by omega)) (Int.ofNat_lt.2 hjn) hjn (wrapu_nat n hm)
end Go.Proofs.YtcikljcjhijjdabGreat

namespace Go.Proofs.YtcikljcjhijjdabGreat
open Go.RowKit Go.Lib
set_option linter.unusedSimpArgs false
set_option linter.unusedVariables false

def NSt.tk (s : NSt) (g : Int) : NSt := if s.tickE g = 0 then (s.ticked g).tell else s
def NSt.tkM (s : NSt) (g : Int) : Nat := if s.tickE g = 0 then s.many g else 0
def NSt.tkT (s : NSt) (g : Int) : List ByteArray := if s.tickE g = 0 then beatsOf s.c s.seq (s.many g) else []
def NSt.tkN (s : NSt) (g : Int) : List TriD := if s.tickE g = 0 then (s.ticked g).notes else []
theorem NGood.tk {s : NSt} (h : NGood s) (g : Int) : NGood (s.tk g) := by
  unfold NSt.tk
  split
  · next he => exact (h.ticked he).tell
  · exact h
theorem NSt.tkM_len (s : NSt) (g : Int) : (s.tkT g).length = s.tkM g := by
  unfold NSt.tkM NSt.tkT
  split
  · exact beatsOf_len _ _ _
  · rfl
theorem NSt.notes_le {s : NSt} (h : NGood s) : s.notes.length ≤ 8 := Nat.le_trans (notesOf_le _ _) h.eight
theorem NSt.tkN_le {s : NSt} (h : NGood s) (g : Int) : (s.tkN g).length ≤ 8 := by
  unfold NSt.tkN
  split
  · next he => exact NSt.notes_le (h.ticked he)
  · simp
theorem NSt.hearN_le {s : NSt} (h : NGood s) (x : ByteArray) : (s.hearN x).length ≤ 8 := by
  unfold NSt.hearN
  split
  · exact NSt.notes_le (h.mid x)
  · simp
theorem NSt.joinN_le {s : NSt} (h : NGood s) (id : ByteArray) (th : Int) : (s.joinN id th).length ≤ 8 := by
  unfold NSt.joinN
  split
  · next he => exact NSt.notes_le (h.plus he)
  · simp
theorem tkM_le {s : NSt} (h : NGood s) (g : Int) : s.tkM g ≤ 100 := by
  unfold NSt.tkM
  split
  · next he =>
    have hc := h.cfg
    unfold CfgIn at hc
    unfold NSt.tickE at he
    unfold NSt.many
    obtain ⟨-, -, hc1, hc2, -⟩ := hc
    by_cases h1 : g < 1 ∨ 1073741824 < g
    · rw [if_pos h1] at he; cases he
    · rw [if_neg h1] at he
      by_cases h2 : 1073741824 < s.now + g ∨ 64 ≤ g / cfe s.c
      · rw [if_pos h2] at he; cases he
      · generalize cfe s.c = ev at *
        have h3 : g / ev < 64 := by omega
        have h4 : g < 64 * ev := Int.lt_mul_of_ediv_lt (by omega) h3
        have h5 : (s.now + g) / ev ≤ (s.now + 64 * ev) / ev := Int.ediv_le_ediv (by omega) (by omega)
        rw [Int.add_mul_ediv_right _ _ (by omega)] at h5
        omega
  · omega
/-- the program's node in blocks of its own, the reference's in blocks Y, all new since w -/
def PY (w W : World) (b : Nat) (s : NSt) (b' : Nat) (s' : NSt) (Y : Nat → Prop) : Prop :=
  ∃ X, NodeAt X W b s ∧ RNodeAt Y W b' s' ∧ (∀ k, X k → w.heap.size ≤ k) ∧ (∀ k, Y k → w.heap.size ≤ k) ∧ (∀ k, X k → ¬ Y k) ∧ Below w.heap.size w W
theorem RNodeAt.xlt {Y : Nat → Prop} {W : World} {b : Nat} {s : NSt} (h : RNodeAt Y W b s) : ∀ k, Y k → k < W.heap.size := by
  obtain ⟨_, _, _, _, _, h⟩ := h
  exact h.xlt
theorem NodeAt.xlt {Y : Nat → Prop} {W : World} {b : Nat} {s : NSt} (h : NodeAt Y W b s) : ∀ k, Y k → k < W.heap.size := by
  obtain ⟨_, _, _, _, _, h⟩ := h
  exact h.xlt
section
variable {w W W' : World} {b b' : Nat} {s s' : NSt} {Y : Nat → Prop}
theorem PY.bel (h : PY w W b s b' s' Y) : Below w.heap.size w W := by
  obtain ⟨_, _, _, _, _, _, h⟩ := h
  exact h
theorem PY.ylt (h : PY w W b s b' s' Y) : ∀ k, Y k → k < W.heap.size := by
  obtain ⟨_, _, h, _⟩ := h
  exact RNodeAt.xlt h
theorem PY.below (h : PY w W b s b' s' Y) (hb : Below W.heap.size W W') : PY w W' b s b' s' Y := by
  obtain ⟨X, h1, h2, h3, h4, h5, h6⟩ := h
  exact ⟨X, HoldAt.below h1 hb, HoldAt.below h2 hb, h3, h4, h5, h6.trans (hb.mono h6.size)⟩
theorem PY.p {X : Nat → Prop} {s1 : NSt} (h2 : RNodeAt Y W b' s') (h3 : ∀ k, X k → w.heap.size ≤ k) (h4 : ∀ k, Y k → w.heap.size ≤ k) (h5 : ∀ k, X k → ¬ Y k) (h6 : Below w.heap.size w W) (hn : NodeAt (grow X W W') W' b s1) (hk : Kept X W W') : PY w W' b s1 b' s' Y :=
  ⟨_, hn, HoldAt.kept h2 hk h5, fun k hk => hk.1.elim (h3 k) (fun h => Nat.le_trans h6.size h), h4, fun k hx hy => hx.1.elim (fun e => h5 k e hy) (fun e => by have := RNodeAt.xlt h2 k hy; omega), h6.trans (hk.below h3 h6.size)⟩
theorem PY.r {X : Nat → Prop} {s1 : NSt} (h1 : NodeAt X W b s) (h3 : ∀ k, X k → w.heap.size ≤ k) (h4 : ∀ k, Y k → w.heap.size ≤ k) (h5 : ∀ k, X k → ¬ Y k) (h6 : Below w.heap.size w W) (hn : RNodeAt (grow Y W W') W' b' s1) (hk : Kept Y W W') : PY w W' b s b' s1 (grow Y W W') :=
  ⟨X, HoldAt.kept h1 hk (fun k hy hx => h5 k hx hy), hn, h3, fun k hk => hk.1.elim (h4 k) (fun h => Nat.le_trans h6.size h), fun k hx hy => hy.1.elim (fun e => h5 k hx e) (fun e => by have := NodeAt.xlt h1 k hx; omega), h6.trans (hk.below h4 h6.size)⟩
theorem PY.start {c : CfgD} {w1 w2 : World} (h1 : NodeAt (· = b) w1 b (NSt.start c)) (hw : Below w.heap.size w w1) (hb : w.heap.size ≤ b) (hw2 : Below w1.heap.size w1 w2) (h2 : RNodeAt (· = b') w2 b' (NSt.start c)) (hbb : w1.heap.size ≤ b') : PY w w2 b (NSt.start c) b' (NSt.start c) (· = b') :=
  ⟨_, HoldAt.below h1 hw2, h2, fun k hk => by rw [hk]; exact hb, fun k hk => by rw [hk]; exact Nat.le_trans hw.size hbb, fun k hx hy => by have := NodeAt.xlt h1 b rfl; rw [hy] at hx; omega, hw.trans (hw2.mono hw.size)⟩
/-! ### what the calls answer -/
def PyE (w : World) (b : Nat) (s : NSt) (b' : Nat) (s' : NSt) (Y : Nat → Prop) (er : Int) (e : Ending) (W' : World) : Prop := e = .returned (.int .i64 er) ∧ PY w W' b s b' s' Y
def PyN (w W : World) (b : Nat) (s : NSt) (b' : Nat) (s' : NSt) (Y : Nat → Prop) (N : List TriD) (er : Int) (e : Ending) (W' : World) : Prop :=
  ∃ A c, e = .returned (.tuple #[.slice A N.length c, .int .i64 er]) ∧ W'.ownsRow W.heap.size 55 3 (.slice A N.length c) N.length (cells3 N) ∧ PY w W' b s b' s' Y
def PyT (w W : World) (b : Nat) (s : NSt) (b' : Nat) (s' : NSt) (Y : Nat → Prop) (T : List ByteArray) (m : Nat) (N : List TriD) (er : Int) (e : Ending) (W' : World) : Prop :=
  ∃ A1 c1 A2 c2, e = .returned (.tuple #[.slice A1 m c1, .slice A2 N.length c2, .int .i64 er]) ∧ W'.ownsRow W.heap.size 9 1 (.slice A1 m c1) m (cellsTx T) ∧ W'.ownsRow W.heap.size 55 3 (.slice A2 N.length c2) N.length (cells3 N) ∧ PY w W' b s b' s' Y
def RyE (w : World) (b : Nat) (s : NSt) (b' : Nat) (s' : NSt) (er : Int) (e : Ending) (W' : World) : Prop := e = .returned (.int .i64 er) ∧ ∃ Y, PY w W' b s b' s' Y
def RyN (w W : World) (b : Nat) (s : NSt) (b' : Nat) (s' : NSt) (Y : Nat → Prop) (N : List TriD) (er : Int) (e : Ending) (W' : World) : Prop :=
  ∃ A c, e = .returned (.tuple #[.slice A N.length c, .int .i64 er]) ∧ Reads W' W'.heap.size 3 A N.length (cells3 N) ∧ Kept Y W W' ∧ ∃ Y, PY w W' b s b' s' Y
def RyT (w W : World) (b : Nat) (s : NSt) (b' : Nat) (s' : NSt) (Y : Nat → Prop) (T : List ByteArray) (m : Nat) (N : List TriD) (er : Int) (e : Ending) (W' : World) : Prop :=
  ∃ A1 c1 A2 c2, e = .returned (.tuple #[.slice A1 m c1, .slice A2 N.length c2, .int .i64 er]) ∧ Reads W' W'.heap.size 1 A1 m (cellsTx T) ∧ Reads W' W'.heap.size 3 A2 N.length (cells3 N) ∧ Kept Y W W' ∧ ∃ Y, PY w W' b s b' s' Y
/-- a row of the first's, over a call of the second -/
theorem PY.row {size n : Nat} {T : TypeId} {A : Option Addr} {c : Nat} {xs : List Value} {W1 W2 : World} (hY : ∀ k, Y k → k < W.heap.size) (ho : W1.ownsRow W.heap.size T size (.slice A n c) n xs) (hk : Kept Y W1 W2) : Reads W2 W2.heap.size size A n xs :=
  Reads.of_own (hk.own ho (fun k hk hy => by have := (ho.lt k hk).1; have := hY k hy; omega))
theorem PY.watch (h : PY w W b s b' s' Y) (hg : NGood s) (id : ByteArray) (hid : id.size ≤ maxLen) (ev : Int) :
    Calls Tryz.prog 26 #[.pointer (some ⟨b, 0, none⟩), .string id, .int .i64 ev] W (PyE w b (s.watched id ev) b' s' Y (s.watchE id ev)) := by
  obtain ⟨X, h1, h2, h3, h4, h5, h6⟩ := h
  obtain ⟨_, _, _, _, _, h1⟩ := h1
  exact (watch_any h1 hg id hid ev).mono fun e W' ⟨k1, k2, k3⟩ => ⟨k1, PY.p h2 h3 h4 h5 h6 k2 k3⟩










theorem PY.join (h : PY w W b s b' s' Y) (hg : NGood s) (id : ByteArray) (th : Int) :
    Calls Tryz.prog 42 #[.pointer (some ⟨b, 0, none⟩), .string id, .int .i64 th] W (PyN w W b (s.joined id th) b' s' Y (s.joinN id th) (s.joinE id th)) := by
  obtain ⟨X, h1, h2, h3, h4, h5, h6⟩ := h
  obtain ⟨_, _, _, _, _, h1⟩ := h1
  exact (join_any h1 hg id th).mono fun e W' ⟨A, c, k1, k2, k3, k4⟩ => ⟨A, c, k1, k2, PY.p h2 h3 h4 h5 h6 k3 k4⟩
theorem PY.hear (h : PY w W b s b' s' Y) (hg : NGood s) (x : ByteArray) :
    Calls Tryz.prog 35 #[.pointer (some ⟨b, 0, none⟩), .string x] W (PyN w W b (s.heard x) b' s' Y (s.hearN x) (s.hearE x)) := by
  obtain ⟨X, h1, h2, h3, h4, h5, h6⟩ := h
  obtain ⟨_, _, _, _, _, h1⟩ := h1
  exact (hear_any h1 hg x).mono fun e W' ⟨A, c, k1, k2, k3, k4⟩ => ⟨A, c, k1, k2, PY.p h2 h3 h4 h5 h6 k3 k4⟩
theorem PY.tick (h : PY w W b s b' s' Y) (hg : NGood s) (g : Int) :
    Calls Tryz.prog 30 #[.pointer (some ⟨b, 0, none⟩), .int .i64 g] W (PyT w W b (s.tk g) b' s' Y (s.tkT g) (s.tkM g) (s.tkN g) (s.tickE g)) := by
  have hpy := h
  obtain ⟨X, h1, h2, h3, h4, h5, h6⟩ := h
  obtain ⟨_, _, _, _, _, h1⟩ := h1
  refine (tick_any h1 hg g).mono fun e W' hh => ?_
  unfold TkIs at hh
  unfold NSt.tk NSt.tkT NSt.tkM NSt.tkN
  by_cases he : s.tickE g = 0
  · rw [if_pos he] at hh
    rw [if_pos he, if_pos he, if_pos he, if_pos he, he]
    obtain ⟨_, _, _, _, _, A1, c1, A2, c2, k1, k2, k3, k4, k5⟩ := hh
    exact ⟨A1, c1, A2, c2, k1, k2, k3, PY.p h2 h3 h4 h5 h6 (HoldIs.at_ (HoldIs.grow k4)) k5⟩
  · rw [if_neg he] at hh
    rw [if_neg he, if_neg he, if_neg he, if_neg he]
    obtain ⟨rfl, rfl⟩ := hh
    exact ⟨none, 0, none, 0, rfl, World.ownsRow_nil _ _ _ _, World.ownsRow_nil _ _ _ _, hpy⟩
theorem PY.level (h : PY w W b s b' s' Y) (hg : NGood s) (id : ByteArray) :
    Calls Tryz.prog 39 #[.pointer (some ⟨b, 0, none⟩), .string id] W (LvIs (s.lv id) (lvEr s.D id) W) := by
  obtain ⟨X, h1, h2, h3, h4, h5, h6⟩ := h
  obtain ⟨_, _, _, _, _, h1⟩ := h1
  exact nlv_any h1 hg id
/-! ### the reference's -/
theorem PY.rwatch (h : PY w W b s b' s' Y) (hg : NGood s') (id : ByteArray) (hid : id.size ≤ maxLen) (ev : Int) :
    Calls Tryz.prog 28 #[.pointer (some ⟨b', 0, none⟩), .string id, .int .i64 ev] W (RyE w b s b' (s'.watched id ev) (s'.watchE id ev)) := by
  obtain ⟨X, h1, h2, h3, h4, h5, h6⟩ := h
  obtain ⟨_, _, _, _, _, h2⟩ := h2
  exact (rwatch_any h2 hg id hid ev).mono fun e W' ⟨k1, k2, k3⟩ => ⟨k1, _, PY.r h1 h3 h4 h5 h6 k2 k3⟩










theorem PY.rjoin (h : PY w W b s b' s' Y) (hg : NGood s') (id : ByteArray) (th : Int) :
    Calls Tryz.prog 20 #[.pointer (some ⟨b', 0, none⟩), .string id, .int .i64 th] W (RyN w W b s b' (s'.joined id th) Y (s'.joinN id th) (s'.joinE id th)) := by
  obtain ⟨X, h1, h2, h3, h4, h5, h6⟩ := h
  obtain ⟨_, _, _, _, _, h2⟩ := h2
  exact (rjoin_any h2 hg id th).mono fun e W' ⟨A, c, k1, k2, k3, k4⟩ => ⟨A, c, k1, Reads.of_own k2, k4, _, PY.r h1 h3 h4 h5 h6 k3 k4⟩
theorem PY.rhear (h : PY w W b s b' s' Y) (hg : NGood s') (x : ByteArray) :
    Calls Tryz.prog 36 #[.pointer (some ⟨b', 0, none⟩), .string x] W (RyN w W b s b' (s'.heard x) Y (s'.hearN x) (s'.hearE x)) := by
  obtain ⟨X, h1, h2, h3, h4, h5, h6⟩ := h
  obtain ⟨_, _, _, _, _, h2⟩ := h2
  exact (rhear_any h2 hg x).mono fun e W' ⟨A, c, k1, k2, k3, k4⟩ => ⟨A, c, k1, Reads.of_own k2, k4, _, PY.r h1 h3 h4 h5 h6 k3 k4⟩
theorem PY.rlevel (h : PY w W b s b' s' Y) (hg : NGood s') (id : ByteArray) :
    Calls Tryz.prog 18 #[.pointer (some ⟨b', 0, none⟩), .string id] W (LvIs (s'.lv id) (lvEr s'.D id) W) := by
  obtain ⟨X, h1, h2, h3, h4, h5, h6⟩ := h
  obtain ⟨_, _, _, _, _, h2⟩ := h2
  exact rlv_core h2.blk h2.peers h2.map hg id
/-- the reference's tick, error or not -/
theorem rtick_bad (b : Nat) (s : NSt) (hg : NGood s) (pv sv : Value) (ticks : Int) (he : s.tickE ticks ≠ 0) (w : World) (hb : Blk w b 73 (rnodeCs s.c s.now s.drops pv sv)) :
    Calls Tryz.prog 34 #[.pointer (some ⟨b, 0, none⟩), .int .i64 ticks] w fun e w' => e = .returned (.tuple #[.slice none 0 0, .slice none 0 0, .int .i64 (s.tickE ticks)]) ∧ w = w' := by
  unfold NSt.tickE at he ⊢
  by_cases h1 : ticks < 1 ∨ 1073741824 < ticks
  · rw [if_pos h1]
    exact rtick_arg b ticks (wi_false.2 h1) w
  · rw [if_neg h1] at he ⊢
    by_cases h2 : 1073741824 < s.now + ticks ∨ 64 ≤ ticks / cfe s.c
    · rw [if_pos h2]
      exact rtick_large b s hg.cfg pv sv ticks (by omega) (by omega) hg.now0 hg.now1 h2 w hb
    · rw [if_neg h2] at he
      exact absurd rfl he
theorem PY.rtick (h : PY w W b s b' s' Y) (hg : NGood s') (g : Int) :
    Calls Tryz.prog 34 #[.pointer (some ⟨b', 0, none⟩), .int .i64 g] W (RyT w W b s b' (s'.tk g) Y (s'.tkT g) (s'.tkM g) (s'.tkN g) (s'.tickE g)) := by
  have hpy := h
  obtain ⟨X, h1, h2, h3, h4, h5, h6⟩ := h
  obtain ⟨_, _, _, _, _, h2⟩ := h2
  unfold NSt.tk NSt.tkT NSt.tkM NSt.tkN
  by_cases he : s'.tickE g = 0
  · rw [if_pos he, if_pos he, if_pos he, if_pos he, he]
    exact (rtick_ok h2 hg g he).mono fun e W' ⟨A1, c1, A2, c2, k1, k2, k3, k4, k5⟩ => ⟨A1, c1, A2, c2, k1, Reads.of_own k2, Reads.of_own k3, k5, _, PY.r h1 h3 h4 h5 h6 (HoldIs.at_ (HoldIs.grow k4)) k5⟩
  · rw [if_neg he, if_neg he, if_neg he, if_neg he]
    exact (rtick_bad b' s' hg _ _ g he W h2.blk).mono fun e W' ⟨k1, k2⟩ => ⟨none, 0, none, 0, k1, Reads.none_, Reads.none_, k2 ▸ Kept.refl _ _, _, k2 ▸ hpy⟩
end
end Go.Proofs.YtcikljcjhijjdabGreat
