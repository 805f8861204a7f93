/- The law NodePlays, walked. -/
import Derived.Test.YtcikljcjhijjdaaGreatM50
import Derived.Test.YtcikljcjhijjdaaGreatM47
import Derived.Test.YtcikljcjhijjdaaGreatM39
import Derived.Test.YtcikljcjhijjdaaGreatM20
import Derived.BigQuiet
import Derived.Deep.QuietTactic
import Derived.Deep.DeepCutAuto
import Derived.Deep.CutBlock
namespace Go.Proofs.YtcikljcjhijjdaaGreat
open Go.RowKit Go.Lib
set_option linter.unusedSimpArgs false
set_option linter.unusedVariables false

def cB : CfgD := (⟨#[97]⟩, 0, 5, 1, 1)
theorem cB_ok : cfgE cB = 0 := by decide
theorem cB_watch : (NSt.start cB).watchE ⟨#[98]⟩ 5 = 0 := by decide
theorem new_b (w : World) : Calls Tryz.prog 4 #[.agg #[.string ⟨#[97]⟩, .int .i64 0, .int .i64 5, .int .i64 1, .int .i64 1]] w (NewIs cB w) := new_ok cB cB_ok w
theorem new_no' (s : ByteArray) (i v k l : Int) (hs : s.size ≤ maxLen) (e0 : Int) (he : cfgE (s, i, v, k, l) = e0) (hz : e0 ≠ 0) (w : World) :
    Calls Tryz.prog 4 #[.agg #[.string s, .int .i64 i, .int .i64 v, .int .i64 k, .int .i64 l]] w fun e w' => e = .returned (.tuple #[.pointer none, .int .i64 e0]) ∧ Below w.heap.size w w' := new_no (s, i, v, k, l) hs e0 he hz w
theorem new_ok' (s : ByteArray) (i v k l : Int) (he : cfgE (s, i, v, k, l) = 0) (w : World) :
    Calls Tryz.prog 4 #[.agg #[.string s, .int .i64 i, .int .i64 v, .int .i64 k, .int .i64 l]] w (NewIs (s, i, v, k, l) w) := new_ok (s, i, v, k, l) he w
theorem cfg_any' (s : ByteArray) (i v k l : Int) (hs : s.size ≤ maxLen) (e0 : Int) (he : cfgE (s, i, v, k, l) = e0) (w : World) :
    Calls Tryz.prog 7 #[.agg #[.string s, .int .i64 i, .int .i64 v, .int .i64 k, .int .i64 l]] w fun e w' => e = .returned (.int .i64 e0) ∧ Below w.heap.size w w' := by
  subst he; exact cfg_any (s, i, v, k, l) hs w
theorem rcfg_any' (s : ByteArray) (i v k l : Int) (e0 : Int) (he : cfgE (s, i, v, k, l) = e0) (w : World) :
    Calls Tryz.prog 6 #[.agg #[.string s, .int .i64 i, .int .i64 v, .int .i64 k, .int .i64 l]] w fun e w' => e = .returned (.int .i64 e0) ∧ Below w.heap.size w w' := by
  subst he; exact rcfg_any (s, i, v, k, l) w

theorem ldc {W : World} {g : Nat} {s : ByteArray} {i v k l : Int} (h : Blk W g 23 #[.string s, .int .i64 i, .int .i64 v, .int .i64 k, .int .i64 l]) :
    W.cell? ⟨g, 0, none⟩ = some (.string s) ∧ W.cell? ⟨g, 1, none⟩ = some (.int .i64 i) ∧ W.cell? ⟨g, 2, none⟩ = some (.int .i64 v) ∧ W.cell? ⟨g, 3, none⟩ = some (.int .i64 k) ∧ W.cell? ⟨g, 4, none⟩ = some (.int .i64 l) :=
  ⟨h.cell 0, h.cell 1, h.cell 2, h.cell 3, h.cell 4⟩
theorem pickT_size {l : List ByteArray} (h : ∀ s ∈ l, s.size ≤ maxLen) (i : Int) : (pickT l i).size ≤ maxLen := by
  unfold pickT
  split
  · show 0 ≤ maxLen; omega
  · next hn =>
    have hlt : (i % 18446744073709551616).toNat % l.length < l.length := Nat.mod_lt _ (by omega)
    rw [List.getD, List.getElem?_eq_getElem hlt]
    exact h _ (List.getElem_mem hlt)
theorem NGood.vals {s : NSt} (h : NGood s) {l : List PeerT} (hm : l.map Prod.fst = s.D) : ∀ p ∈ l, (pvals p).length ≤ 100000 := fun p hp => by
  have hg := h.ps.good p.1 (by rw [← hm]; exact List.mem_map.2 ⟨p, hp, rfl⟩)
  have hw : winE p.1.2.2.1 p.1.2.2.2.1 = 0 := hg.2.2.1
  obtain ⟨_, h2, h3, _⟩ := winE_zero hw
  have : ((pvals p).length : Int) ≤ 64 := Int.le_trans h3 h2
  omega
theorem SubsAt.reads {w : World} {sv : Value} {S : List TriD} (h : SubsAt w sv S) : ∃ A c, sv = .slice A S.length c ∧ Reads w w.heap.size 3 A S.length (cells3 S) := by
  have ho := h.own
  obtain ⟨A, c, rfl⟩ := ownsRow_len ho
  exact ⟨A, c, rfl, Reads.of_own ho⟩
section
variable {w W : World} {b b' : Nat} {s s' : NSt} {Y : Nat → Prop}
/-- the cells of the reference's node -/
theorem PY.cells (h : PY w W b s b' s' Y) : ∃ rA rn rc rS rcs rl, b' < W.heap.size ∧ s'.D.length = rn ∧ W.cell? ⟨b', 5, none⟩ = some (.int .i64 s'.now) ∧ W.cell? ⟨b', 6, none⟩ = some (.int .i64 s'.drops) ∧ W.cell? ⟨b', 7, none⟩ = some (.slice rA rn rc) ∧ W.cell? ⟨b', 8, none⟩ = some (.slice rS s'.S.length rcs) ∧
    Peers W W.heap.size rA rn rl ∧ rl.map Prod.fst = s'.D ∧ Reads W W.heap.size 3 rS s'.S.length (cells3 s'.S) := by
  obtain ⟨X, _, h2, _⟩ := h
  obtain ⟨A, pn, pc, sv, l, h2⟩ := h2
  obtain ⟨rS, rcs, rfl, hr⟩ := h2.subs.reads
  exact ⟨A, pn, pc, rS, rcs, l, h2.blk.lt, HoldIs.len h2, h2.blk.cell 5, h2.blk.cell 6, h2.blk.cell 7, h2.blk.cell 8, h2.peers, h2.map, hr⟩
theorem PY.sentB (h : PY w W b s b' s' Y) (hg : NGood s') : Calls Tryz.prog 27 #[.pointer (some ⟨b', 0, none⟩)] W fun e w' => e = .returned (.int .i64 s'.seq) ∧ Below W.heap.size W w' :=
  (h.sent hg).mono fun e w' ⟨k1, n, k2⟩ => ⟨k1, k2 ▸ below_drewN (Below.refl _ _) n⟩
theorem PY.own (h : PY w W b s b' s' Y) : Own w W b s := by
  obtain ⟨X, h1, _, h3, _, _, h6⟩ := h
  exact ⟨X, h1, h3, h6⟩
theorem PY.peers (h : PY w W b s b' s' Y) (hg : NGood s) : Calls Tryz.prog 30 #[.pointer (some ⟨b, 0, none⟩)] W (OwP W s.D) := h.own.peers hg
theorem PY.subs (h : PY w W b s b' s' Y) (hg : NGood s) : Calls Tryz.prog 32 #[.pointer (some ⟨b, 0, none⟩)] W (NewSubs s.S W) := by
  obtain ⟨X, h1, _⟩ := h
  obtain ⟨_, _, _, _, _, h1⟩ := h1
  exact subs_any h1 hg
end
/-- the two nodes are of one state -/
def NRel2 (w : World) (b b' : Nat) (W : World) : Prop := ∃ s, NGood s ∧ ∃ Y, PY w W b s b' s Y
/-- behind an operation -/
def OpIs (w : World) (b b' : Nat) (e f p q : Value) (W : World) : Prop :=
  ∃ (s : NSt) (er : Int) (N : List TriD) (A1 A2 : Option Addr) (n c1 c2 : Nat), NGood s ∧ e = .int .i64 er ∧ f = .int .i64 er ∧ p = .slice A1 n c1 ∧ q = .slice A2 n c2 ∧ N.length = n ∧ n ≤ 8 ∧ Reads W W.heap.size 3 A1 n (cells3 N) ∧ Reads W W.heap.size 3 A2 n (cells3 N) ∧ ∃ Y, PY w W b s b' s Y
theorem reads_up {W W' : World} {size n : Nat} {A : Option Addr} {xs : List Value} (h : Reads W W.heap.size size A n xs) (hb : Below W.heap.size W W') : Reads W' W'.heap.size size A n xs :=
  ⟨h.1, fun hn => by
    obtain ⟨ad, e, hb', hc⟩ := (h.below hb (Nat.le_refl _)).2 hn
    exact ⟨ad, e, Nat.lt_of_lt_of_le hb' hb.size, hc⟩⟩
theorem OpIs.err {w W : World} {b b' : Nat} {s : NSt} {er : Int} {Y : Nat → Prop} (hg : NGood s) (h : PY w W b s b' s Y) : OpIs w b b' (.int .i64 er) (.int .i64 er) (.slice none 0 0) (.slice none 0 0) W :=
  ⟨s, er, [], none, none, 0, 0, 0, hg, rfl, rfl, rfl, rfl, rfl, by decide, Reads.none_, Reads.none_, Y, h⟩
theorem OpIs.notes {w W W1 W2 : World} {b b' : Nat} {s : NSt} {er : Int} {N : List TriD} {Y Y' : Nat → Prop} {A1 A2 : Option Addr} {c1 c2 : Nat} (hg : NGood s) (hN : N.length ≤ 8) (hY : ∀ k, Y k → k < W.heap.size)
    (ho : W1.ownsRow W.heap.size 52 3 (.slice A1 N.length c1) N.length (cells3 N)) (hk : Kept Y W1 W2) (hr : Reads W2 W2.heap.size 3 A2 N.length (cells3 N)) (h : PY w W2 b s b' s Y') : OpIs w b b' (.int .i64 er) (.int .i64 er) (.slice A1 N.length c1) (.slice A2 N.length c2) W2 :=
  ⟨s, er, N, A1, A2, N.length, c1, c2, hg, rfl, rfl, rfl, rfl, rfl, hN, PY.row hY ho hk, hr, Y', h⟩

set_option maxHeartbeats 2000000 in
set_option maxRecDepth 100000 in
/-- settings that may not be -/
theorem nodePlays_no (s : ByteArray) (i v k l : Int) (hs : s.size ≤ maxLen) (e0 : Int) (he : cfgE (s, i, v, k, l) = e0) (hz : e0 ≠ 0) (A1 A2 A3 : Option Addr) (n1 n2 n3 c1 c2 c3 : Nat) (w : World) :
    Calls Tryz.prog 3 #[.agg #[.string s, .int .i64 i, .int .i64 v, .int .i64 k, .int .i64 l], .slice A1 n1 c1, .slice A2 n2 c2, .slice A3 n3 c3] w fun e w' => e = .returned (.bool true) ∧ Below w.heap.size w w' := by
  have E := Lib.hid ((Env.start w).lay #[.string s, .int .i64 i, .int .i64 v, .int .i64 k, .int .i64 l] 23)
  have HE := Lib.hid he
  have hb0 : (e0 == 0) = false := by simpa using hz
  have hb1 : (e0 != 0) = true := by simpa using hz
  have HZ := Lib.hid hz
  have HW := Lib.hid cB_watch
  clear he hz
  go_enter Tryz.func3, Tryz.ntmps3
  go_wp2_with fail
  refine (new_b _).mono ?_
  rintro e' w1 hnew
  obtain ⟨b, rfl, how, -⟩ := Own.new (Below.refl _ _) hnew
  have O1 := Lib.hid how
  clear hnew how
  go_wp2_with fail
  refine (O1.out.watch (NGood.start cB_ok) ⟨#[98]⟩ (by decide) 5).mono ?_
  rintro e' w2 ⟨rfl, how⟩
  rw [HW.out]
  have E2 := Lib.hid (E.out.below how.bel)
  obtain ⟨p0, p1, p2, p3, p4⟩ := ldc E2.out.hd
  have hlt2 : w.heap.size < w2.heap.size := E2.out.hd.lt
  clear how
  go_wp2_with fail
  refine (new_no' s i v k l hs e0 HE.out HZ.out _).mono ?_
  rintro e' w3 ⟨rfl, hb3⟩
  have E3 := Lib.hid (E2.out.below hb3)
  clear p0 p1 p2 p3 p4
  obtain ⟨p0, p1, p2, p3, p4⟩ := ldc E3.out.hd
  clear hb3
  go_wp2_with fail
  refine (rcfg_any' s i v k l e0 HE.out _).mono ?_
  rintro e' w4 ⟨rfl, hb4⟩
  have E4 := Lib.hid (E3.out.below hb4)
  clear p0 p1 p2 p3 p4
  obtain ⟨p0, p1, p2, p3, p4⟩ := ldc E4.out.hd
  clear hb4
  go_wp2_with fail
  refine (cfg_any' s i v k l hs e0 HE.out _).mono ?_
  rintro e' w5 ⟨rfl, hb5⟩
  have E5 := Lib.hid (E4.out.below hb5)
  clear hb5 p0 p1 p2 p3 p4
  go_wp2
  go_ret
  exact ⟨rfl, E5.out.bel⟩

theorem OpIs.below {w W W' : World} {b b' : Nat} {e f p q : Value} (h : OpIs w b b' e f p q W) (hb : Below W.heap.size W W') : OpIs w b b' e f p q W' := by
  obtain ⟨s, er, N, A1, A2, n, c1, c2, h1, h2, h3, h4, h5, h6, h7, h8, h9, Y, h10⟩ := h
  exact ⟨s, er, N, A1, A2, n, c1, c2, h1, h2, h3, h4, h5, h6, h7, reads_up h8 hb, reads_up h9 hb, Y, h10.below hb⟩

set_option maxHeartbeats 4000000 in
set_option maxRecDepth 100000 in
theorem nodePlays_ok (s : ByteArray) (i v k l : Int) (he : cfgE (s, i, v, k, l) = 0) (A1 A2 A3 : Option Addr) (c1 c2 c3 : Nat) (l1 : List RowT) (l2 l3 : List ByteArray) (w : World)
    (r1 : Reads w w.heap.size 1 A1 l1.length (cellsRw l1)) (b1 : l1.length ≤ c1 ∧ c1 ≤ maxLen) (o1 : ∀ r ∈ l1, RowOk w w.heap.size r) (r2 : Reads w w.heap.size 1 A2 l2.length (cellsTx l2)) (b2 : l2.length ≤ c2 ∧ c2 ≤ maxLen) (o2 : ∀ s ∈ l2, s.size ≤ maxLen)
    (r3 : Reads w w.heap.size 1 A3 l3.length (cellsTx l3)) (b3 : l3.length ≤ c3 ∧ c3 ≤ maxLen) (o3 : ∀ s ∈ l3, s.size ≤ maxLen) :
    Calls Tryz.prog 3 #[.agg #[.string s, .int .i64 i, .int .i64 v, .int .i64 k, .int .i64 l], .slice A1 l1.length c1, .slice A2 l2.length c2, .slice A3 l3.length c3] w fun e w' => e = .returned (.bool true) ∧ Below w.heap.size w w' := by
  have E := Lib.hid ((Env.start w).lay #[.string s, .int .i64 i, .int .i64 v, .int .i64 k, .int .i64 l] 23)
  have HE := Lib.hid he
  have HW := Lib.hid cB_watch
  have hs : s.size ≤ maxLen := by have := (idB_ne (cfgE_zero he).1).2; unfold maxLen; simp at this; omega
  have R1 := Lib.hid r1
  have R2 := Lib.hid r2
  have R3 := Lib.hid r3
  have O1s := Lib.hid o1
  have HP2 := Lib.hid (fun i => pickT_size o2 i)
  obtain ⟨b11, b12⟩ := b1
  obtain ⟨b21, b22⟩ := b2
  obtain ⟨b31, b32⟩ := b3
  unfold maxLen at b12 b22 b32
  clear he r1 r2 r3 o1 o2 o3
  go_enter Tryz.func3, Tryz.ntmps3
  go_wp2_with fail
  refine (new_b _).mono ?_
  rintro e' w1 hnew
  obtain ⟨b, rfl, how, -⟩ := Own.new (Below.refl _ _) hnew
  have O1 := Lib.hid how
  clear hnew how
  go_wp2_with fail
  refine (O1.out.watch (NGood.start cB_ok) ⟨#[98]⟩ (by decide) 5).mono ?_
  rintro e' w2 ⟨rfl, how⟩
  rw [HW.out]
  have E2 := Lib.hid (E.out.below how.bel)
  obtain ⟨p0, p1, p2, p3, p4⟩ := ldc E2.out.hd
  have hlt2 : w.heap.size < w2.heap.size := E2.out.hd.lt
  clear how
  go_wp2_with fail
  refine (new_ok' s i v k l HE.out _).mono ?_
  rintro e' w3 ⟨nb, rfl, hnb, hat, hb3⟩
  have E3 := Lib.hid (E2.out.below hb3)
  clear p0 p1 p2 p3 p4
  obtain ⟨p0, p1, p2, p3, p4⟩ := ldc E3.out.hd
  have hlt3 : w.heap.size < w3.heap.size := E3.out.hd.lt
  have N3 := Lib.hid hat
  have HNB := Lib.hid (show w.heap.size ≤ nb from Nat.le_trans E2.out.bel.size hnb)
  clear hb3 hat hnb
  go_wp2_with fail
  refine (rcfg_any' s i v k l 0 HE.out _).mono ?_
  rintro e' w4 ⟨rfl, hb4⟩
  have E4 := Lib.hid (E3.out.below hb4)
  have N4 := Lib.hid (HoldAt.below N3.out hb4)
  clear p0 p1 p2 p3 p4
  obtain ⟨p0, p1, p2, p3, p4⟩ := ldc E4.out.hd
  have hlt4 : w.heap.size < w4.heap.size := E4.out.hd.lt
  clear hb4
  go_wp2_with fail
  refine (cfg_any' s i v k l hs 0 HE.out _).mono ?_
  rintro e' w5 ⟨rfl, hb5⟩
  have E5 := Lib.hid (E4.out.below hb5)
  have N5 := Lib.hid (show NodeAt (· = nb) w5 nb (NSt.start (s, i, v, k, l)) from HoldAt.below N4.out hb5)
  clear p0 p1 p2 p3 p4
  obtain ⟨p0, p1, p2, p3, p4⟩ := ldc E5.out.hd
  have hlt5 : w.heap.size < w5.heap.size := E5.out.hd.lt
  clear hb5
  have HPY := Lib.hid (show ∀ b', w5.heap.size = b' → NRel2 w nb b' (w5.alloc (.cells (rnodeCs (s, i, v, k, l) 0 0 (.slice none 0 0) (.slice none 0 0)) 36)) from fun b' hb' => by subst hb'; exact ⟨_, NGood.start HE.out, _, PY.start N5.out E5.out.bel HNB.out ((Below.refl _ _).alloc (Nat.le_refl _) _) (rnode_new (Blk.new w5 _ _)) (Nat.le_refl _)⟩)
  go_wp2_with fail
  obtain ⟨b', hb'⟩ : ∃ b', w5.heap.size = b' := ⟨_, rfl⟩
  have H0 := Lib.hid (HPY.out b' hb')
  rw [hb']
  clear HPY hb' p0 p1 p2 p3 p4
  go_loopw [73] (fun iv wr => ∃ j : Nat, j ≤ l1.length ∧ iv = .int .i64 (j : Int) ∧ NRel2 w nb b' wr) (fun iv _ => l1.length - (RowKit.intOf iv).toNat)
  case atStart => exact ⟨0, by omega, rfl, H0.out⟩
  case round =>
    obtain ⟨j, hj, rfl, st, hg, Y, hpy⟩ := hrel
    obtain ⟨wo, rfl⟩ : ∃ wo, wo = wr := ⟨_, rfl⟩
    have G := Lib.hid hg
    have P0 := Lib.hid hpy
    clear hg hpy H0
    by_cases hlt : j < l1.length
    · obtain ⟨bb, off, rfl, hbb, hcs⟩ := (R1.out.below P0.out.bel (Nat.le_refl _)).addr (by omega)
      have hck := hcs j (rowV (l1[j]'hlt)) (by simp [cellsRw, hlt])
      have hrow := O1s.out _ (List.getElem_mem hlt)
      have hbbo : bb < wo.heap.size := Nat.lt_of_lt_of_le hbb P0.out.bel.size
      generalize l1[j]'hlt = rw1 at *
      obtain ⟨Ak, ck, lk⟩ := rw1
      obtain ⟨hra, hrb, hrc⟩ := hrow
      simp only [rowV] at hck hra hrb hrc
      unfold maxLen at hrc
      have AT0 := Lib.hid (show ∀ W, Below w.heap.size w W → Calls Tryz.prog 9 #[.slice Ak lk.length ck, .int .i64 0] W fun e w' => e = .returned (.int .i64 (atZ lk 0)) ∧ Below W.heap.size W w' from fun W hb => at_any Ak ck w.heap.size lk.length 0 lk rfl (by decide) W (hra.below hb (Nat.le_refl _)))
      have AT1 := Lib.hid (show ∀ W, Below w.heap.size w W → Calls Tryz.prog 9 #[.slice Ak lk.length ck, .int .i64 1] W fun e w' => e = .returned (.int .i64 (atZ lk 1)) ∧ Below W.heap.size W w' from fun W hb => at_any Ak ck w.heap.size lk.length 1 lk rfl (by decide) W (hra.below hb (Nat.le_refl _)))
      have AT2 := Lib.hid (show ∀ W, Below w.heap.size w W → Calls Tryz.prog 9 #[.slice Ak lk.length ck, .int .i64 2] W fun e w' => e = .returned (.int .i64 (atZ lk 2)) ∧ Below W.heap.size W w' from fun W hb => at_any Ak ck w.heap.size lk.length 2 lk rfl (by decide) W (hra.below hb (Nat.le_refl _)))
      have PI := Lib.hid (show ∀ W i, Below w.heap.size w W → Calls Tryz.prog 8 #[.slice A2 l2.length c2, .int .i64 i] W fun e w' => e = .returned (.string (pickT l2 i)) ∧ Below W.heap.size W w' from fun W i hb => pick_any A2 c2 w.heap.size l2.length i l2 rfl (by omega) W (R2.out.below hb (Nat.le_refl _)))
      have PT := Lib.hid (show ∀ W i, Below w.heap.size w W → Calls Tryz.prog 8 #[.slice A3 l3.length c3, .int .i64 i] W fun e w' => e = .returned (.string (pickT l3 i)) ∧ Below W.heap.size W w' from fun W i hb => pick_any A3 c3 w.heap.size l3.length i l3 rfl (by omega) W (R3.out.below hb (Nat.le_refl _)))
      clear hcs hra hrb hrc
      go_wp2_with fail
      refine (AT1.out _ P0.out.bel).mono ?_
      rintro e' w6 ⟨rfl, hb6⟩
      have P6 := Lib.hid (P0.out.below hb6)
      clear hb6 hck
      go_wp2_with fail
      refine (PI.out _ _ P6.out.bel).mono ?_
      rintro e' w7 ⟨rfl, hb7⟩
      have P7 := Lib.hid (P6.out.below hb7)
      have HID := Lib.hid (HP2.out (atZ lk 1))
      generalize pickT l2 (atZ lk 1) = id at *
      clear hb7
      go_wp2_with fail
      refine (AT2.out _ P7.out.bel).mono ?_
      rintro e' w8 ⟨rfl, hb8⟩
      have P8 := Lib.hid (P7.out.below hb8)
      clear hb8
      go_wp2_with fail
      refine (AT0.out _ P8.out.bel).mono ?_
      rintro e' w9 ⟨rfl, hb9⟩
      have P9 := Lib.hid (P8.out.below hb9)
      clear hb9
      generalize atZ lk 0 = op at *
      generalize atZ lk 2 = aa at *
      clear AT0 AT1 AT2 P0 P6 P7 P8
      go_upto_block 2 with fail
      go_cut [19, 20, 21, 22] (fun s19 s20 s21 s22 wx => OpIs w nb b' s19 s20 s21 s22 wx)
      case first =>
        by_cases h1 : op = 1
        · subst h1
          as_aux_lemma =>
            have KN := Lib.hid (NSt.tkN_le G.out aa)
            have KM := Lib.hid (tkM_le G.out aa)
            have KL := Lib.hid (NSt.tkM_len st aa)
            have GT := Lib.hid (G.out.tk aa)
            go_wp2_with fail
            refine (P9.out.tick G.out aa).mono ?_
            rintro e' w10 ⟨B1, d1, B2, d2, rfl, ho1, ho2, hp⟩
            have PA := Lib.hid hp
            have OA1 := Lib.hid ho1
            have OA2 := Lib.hid ho2
            clear hp ho1 ho2
            go_wp2_with fail
            refine (PA.out.rtick G.out aa).mono ?_
            rintro e' w11 ⟨B3, d3, B4, d4, rfl, hr1, hr2, hk, Y', hp⟩
            have PB := Lib.hid hp
            have ET := Lib.hid (eqt_same B1 B3 d1 d3 w11.heap.size (st.tkM aa) (st.tkT aa) KL.out (Nat.le_trans KM.out (by decide)) w11 (PY.row P9.out.ylt OA1.out hk) hr1 (Nat.le_refl _))
            have OK := Lib.hid (show OpIs w nb b' (.int .i64 (st.tickE aa)) (.int .i64 (st.tickE aa)) (.slice B2 (st.tkN aa).length d2) (.slice B4 (st.tkN aa).length d4) w11 from OpIs.notes GT.out KN.out P9.out.ylt OA2.out hk hr2 hp)
            clear hp hr1 hr2 hk
            go_wp2_with fail
            refine ET.out.mono ?_
            rintro e' w12 ⟨rfl, hb12⟩
            have OK2 := Lib.hid (OK.out.below hb12)
            clear hb12
            go_wp2_with fail
            go_meet
            exact OK2.out
        by_cases h2 : op = 2
        · subst h2
          as_aux_lemma =>
            go_wp2_with fail
            refine (PT.out _ aa P9.out.bel).mono ?_
            rintro e' w10 ⟨rfl, hb10⟩
            have PA := Lib.hid (P9.out.below hb10)
            clear hb10
            obtain ⟨x, hx⟩ : ∃ x, pickT l3 aa = x := ⟨_, rfl⟩
            have HX := Lib.hid hx
            rw [hx]
            clear hx
            have KN := Lib.hid (NSt.hearN_le G.out x)
            have GT := Lib.hid (G.out.heard x)
            go_wp2_with fail
            refine (PA.out.hear G.out x).mono ?_
            rintro e' w11 ⟨B2, d2, rfl, ho2, hp⟩
            have PB := Lib.hid hp
            have OA2 := Lib.hid ho2
            clear hp ho2
            go_wp2_with fail
            refine (PT.out _ aa PB.out.bel).mono ?_
            rintro e' w12 ⟨rfl, hb12⟩
            have PC := Lib.hid (PB.out.below hb12)
            have OA3 := Lib.hid (ownsRow_below OA2.out hb12)
            rw [HX.out]
            clear hb12
            go_wp2_with fail
            refine (PC.out.rhear G.out x).mono ?_
            rintro e' w13 ⟨B4, d4, rfl, hr2, hk, Y', hp⟩
            have OK := Lib.hid (show OpIs w nb b' (.int .i64 (st.hearE x)) (.int .i64 (st.hearE x)) (.slice B2 (st.hearN x).length d2) (.slice B4 (st.hearN x).length d4) w13 from OpIs.notes GT.out KN.out PA.out.ylt OA3.out hk hr2 hp)
            clear hp hr2 hk
            go_wp2_with fail
            go_meet
            exact OK.out
        by_cases h3 : op = 3
        · subst h3
          as_aux_lemma =>
            have GT := Lib.hid (G.out.watched id aa)
            go_wp2_with fail
            refine (P9.out.watch G.out id HID.out aa).mono ?_
            rintro e' w10 ⟨rfl, hp⟩
            have PA := Lib.hid hp
            clear hp
            go_wp2_with fail
            refine (PA.out.rwatch G.out id HID.out aa).mono ?_
            rintro e' w11 ⟨rfl, Y', hp⟩
            have OK := Lib.hid (show OpIs w nb b' (.int .i64 (st.watchE id aa)) (.int .i64 (st.watchE id aa)) (.slice none 0 0) (.slice none 0 0) w11 from OpIs.err GT.out hp)
            clear hp
            go_wp2_with fail
            go_meet
            exact OK.out
        by_cases h4 : op = 4
        · subst h4
          as_aux_lemma =>
            have GT := Lib.hid (G.out.left id)
            go_wp2_with fail
            refine (P9.out.leave G.out id HID.out).mono ?_
            rintro e' w10 ⟨rfl, hp⟩
            have PA := Lib.hid hp
            clear hp
            go_wp2_with fail
            refine (PA.out.rleave G.out id).mono ?_
            rintro e' w11 ⟨rfl, Y', hp⟩
            have OK := Lib.hid (show OpIs w nb b' (.int .i64 (st.leaveE id)) (.int .i64 (st.leaveE id)) (.slice none 0 0) (.slice none 0 0) w11 from OpIs.err GT.out hp)
            clear hp
            go_wp2_with fail
            go_meet
            exact OK.out
        by_cases h5 : op = 5
        · subst h5
          as_aux_lemma =>
            have KN := Lib.hid (NSt.joinN_le G.out id aa)
            have GT := Lib.hid (G.out.joined id aa)
            go_wp2_with fail
            refine (P9.out.join G.out id aa).mono ?_
            rintro e' w11 ⟨B2, d2, rfl, ho2, hp⟩
            have PB := Lib.hid hp
            have OA2 := Lib.hid ho2
            clear hp ho2
            go_wp2_with fail
            refine (PB.out.rjoin G.out id aa).mono ?_
            rintro e' w13 ⟨B4, d4, rfl, hr2, hk, Y', hp⟩
            have OK := Lib.hid (show OpIs w nb b' (.int .i64 (st.joinE id aa)) (.int .i64 (st.joinE id aa)) (.slice B2 (st.joinN id aa).length d2) (.slice B4 (st.joinN id aa).length d4) w13 from OpIs.notes GT.out KN.out P9.out.ylt OA2.out hk hr2 hp)
            clear hp hr2 hk
            go_wp2_with fail
            go_meet
            exact OK.out
        by_cases h6 : op = 6
        · subst h6
          as_aux_lemma =>
            have GT := Lib.hid (G.out.parted id aa)
            go_wp2_with fail
            refine (P9.out.part G.out id aa).mono ?_
            rintro e' w10 ⟨rfl, hp⟩
            have PA := Lib.hid hp
            clear hp
            go_wp2_with fail
            refine (PA.out.rpart G.out id aa).mono ?_
            rintro e' w11 ⟨rfl, Y', hp⟩
            have OK := Lib.hid (show OpIs w nb b' (.int .i64 (st.partE id aa)) (.int .i64 (st.partE id aa)) (.slice none 0 0) (.slice none 0 0) w11 from OpIs.err GT.out hp)
            clear hp
            go_wp2_with fail
            go_meet
            exact OK.out
        by_cases h7 : op = 7
        · subst h7
          as_aux_lemma =>
            go_wp2_with fail
            refine (P9.out.level G.out id).mono ?_
            rintro e' w10 ⟨rfl, hb10⟩
            have PA := Lib.hid (P9.out.below hb10)
            clear hb10
            go_wp2_with fail
            refine (PA.out.rlevel G.out id).mono ?_
            rintro e' w11 ⟨rfl, hb11⟩
            have OK := Lib.hid (show OpIs w nb b' (.int .i64 (lvEr st.D id)) (.int .i64 (lvEr st.D id)) (.slice none 0 0) (.slice none 0 0) w11 from OpIs.err G.out (PA.out.below hb11))
            clear hb11
            go_wp2_with fail
            go_meet
            exact OK.out
        have e1 : (op == 1) = false := by simpa using h1
        have e2 : (op == 2) = false := by simpa using h2
        have e3 : (op == 3) = false := by simpa using h3
        have e4 : (op == 4) = false := by simpa using h4
        have e5 : (op == 5) = false := by simpa using h5
        have e6 : (op == 6) = false := by simpa using h6
        have e7 : (op == 7) = false := by simpa using h7
        clear h1 h2 h3 h4 h5 h6 h7
        have OK := Lib.hid (show OpIs w nb b' (.int .i64 0) (.int .i64 0) (.slice none 0 0) (.slice none 0 0) w9 from OpIs.err G.out P9.out)
        as_aux_lemma =>
          go_wp2_with fail
          go_meet
          exact OK.out
      case rest =>
        obtain ⟨s9, er, N, Ap, Aq, n9, cp, cq, hg9, rfl, rfl, rfl, rfl, hN, hn8, hrp, hrq, Y9, hp9⟩ := hcut
        have G9 := Lib.hid hg9
        have PZ := Lib.hid hp9
        have HN := Lib.hid hN
        have RP := Lib.hid hrp
        have RQ := Lib.hid hrq
        clear hg9 hp9 hN hrp hrq G P9 PI PT
        obtain ⟨rA, rn, rc, rS, rcs, rl, hb', hDn, rb5, rb6, rb7, rb8, hrp, hrm, hrs⟩ := PZ.out.cells
        obtain rfl : s9.D.length = rn := hDn
        have HEQ := Lib.hid (fun W' (hb : Below wc.heap.size wc W') => eqn_same Ap Aq cp cq wc.heap.size n9 N HN.out (Nat.le_trans hn8 (by decide)) W' (RP.out.below hb (Nat.le_refl _)) (RQ.out.below hb (Nat.le_refl _)) hb.size)
        have HNO := Lib.hid (fun W' (hb : Below wc.heap.size wc W') => (PZ.out.below hb).now)
        have HSQ := Lib.hid (fun W' (hb : Below wc.heap.size wc W') => (PZ.out.below hb).seq)
        have HSN := Lib.hid (fun W' (hb : Below wc.heap.size wc W') => (PZ.out.below hb).sentB G9.out)
        have HDR := Lib.hid (fun W' (hb : Below wc.heap.size wc W') => (PZ.out.below hb).drops)
        have HPE := Lib.hid (fun W' (hb : Below wc.heap.size wc W') => (PZ.out.below hb).peers G9.out)
        have HSU := Lib.hid (fun W' (hb : Below wc.heap.size wc W') => (PZ.out.below hb).subs G9.out)
        have HSP := Lib.hid (fun A20 c20 l20 W20 (hm20 : l20.map Prod.fst = s9.D) (hp20 : Peers W20 W20.heap.size A20 s9.D.length l20) (hx : Below wc.heap.size wc W20) W' (hb : Below W20.heap.size W20 W') => same_peers A20 rA c20 rc W20.heap.size s9.D.length l20 rl (by have := G9.out.ps.six; omega) (hm20.trans hrm.symm) (G9.out.vals hm20) W' (hp20.below hb (Nat.le_refl _)) (((hrp.below hx (Nat.le_refl _)).more hx.size).below hb (Nat.le_refl _)) hb.size)
        have HES := Lib.hid (fun A20 c20 W20 (hr20 : Reads W20 W20.heap.size 3 A20 s9.S.length (cells3 s9.S)) (hx : Below wc.heap.size wc W20) W' (hb : Below W20.heap.size W20 W') => eqs_same A20 rS c20 rcs W20.heap.size s9.S.length s9.S rfl (by have := G9.out.eight; omega) W' (hr20.below hb (Nat.le_refl _)) ((reads_up hrs hx).below hb (Nat.le_refl _)) hb.size)
        have HS := Lib.hid (show ∀ w', Below wc.heap.size wc w' → (Below wc.heap.size wc w' ∧ w'.cell? ⟨b', 5, none⟩ = some (.int .i64 s9.now) ∧ w'.cell? ⟨b', 6, none⟩ = some (.int .i64 s9.drops) ∧ w'.cell? ⟨b', 7, none⟩ = some (.slice rA s9.D.length rc) ∧ w'.cell? ⟨b', 8, none⟩ = some (.slice rS s9.S.length rcs)) from fun w' h => ⟨h, (h.cell (p := ⟨b', 5, none⟩) hb').trans rb5, (h.cell (p := ⟨b', 6, none⟩) hb').trans rb6, (h.cell (p := ⟨b', 7, none⟩) hb').trans rb7, (h.cell (p := ⟨b', 8, none⟩) hb').trans rb8⟩)
        have PF := Lib.hid (fun W' (hb : Below wc.heap.size wc W') => show NRel2 w nb b' W' from ⟨s9, G9.out, Y9, PZ.out.below hb⟩)
        clear hrp hrm hrs rb5 rb6 rb7 rb8 hb' RP RQ HN
        generalize s9.now = nw at *
        generalize s9.drops = dr at *
        generalize s9.seq = sq at *
        as_aux_lemma =>
          go_upto_region 42 with fail
          go_region_held3 (fun w' => Below wc.heap.size wc w' ∧ w'.cell? ⟨b', 5, none⟩ = some (.int .i64 nw) ∧ w'.cell? ⟨b', 6, none⟩ = some (.int .i64 dr) ∧ w'.cell? ⟨b', 7, none⟩ = some (.slice rA s9.D.length rc) ∧ w'.cell? ⟨b', 8, none⟩ = some (.slice rS s9.S.length rcs))
            ((refine HS.out _ ?_; (repeat (first | (with_reducible exact hLL) | (with_reducible exact Below.refl _ _) | (with_reducible refine Below.drew ?_)))))
            (first
                | (go_at_call 24; (with_reducible refine (HEQ.out _ ?i1).mono ?_); (case i1 => (repeat (first | (with_reducible exact hLL) | (with_reducible exact Below.refl _ _) | (with_reducible refine Below.drew ?_)))); rintro e' w20 ⟨rfl, hb20⟩; have hLL : Below wc.heap.size wc w20 := Below.thru5 (by (repeat (first | (with_reducible exact hLL) | (with_reducible exact Below.refl _ _) | (with_reducible refine Below.drew ?_)))) hb20)
                | (go_at_call 25; (with_reducible refine (HNO.out _ ?i2).mono ?_); (case i2 => (repeat (first | (with_reducible exact hLL) | (with_reducible exact Below.refl _ _) | (with_reducible refine Below.drew ?_)))); rintro e' w20 ⟨rfl, rfl⟩)
                | (go_at_call 26; (with_reducible refine (HSQ.out _ ?i3).mono ?_); (case i3 => (repeat (first | (with_reducible exact hLL) | (with_reducible exact Below.refl _ _) | (with_reducible refine Below.drew ?_)))); rintro e' w20 ⟨rfl, rfl⟩)
                | (go_at_call 27; (with_reducible refine (HSN.out _ ?i4).mono ?_); (case i4 => (repeat (first | (with_reducible exact hLL) | (with_reducible exact Below.refl _ _) | (with_reducible refine Below.drew ?_)))); rintro e' w20 ⟨rfl, hb20⟩; have hLL : Below wc.heap.size wc w20 := Below.thru5 (by (repeat (first | (with_reducible exact hLL) | (with_reducible exact Below.refl _ _) | (with_reducible refine Below.drew ?_)))) hb20)
                | (go_at_call 28; (with_reducible refine (HDR.out _ ?i5).mono ?_); (case i5 => (repeat (first | (with_reducible exact hLL) | (with_reducible exact Below.refl _ _) | (with_reducible refine Below.drew ?_)))); rintro e' w20 ⟨rfl, rfl⟩)
                | (go_at_call 30; (with_reducible refine (HPE.out _ ?i6).mono ?_); (case i6 => (repeat (first | (with_reducible exact hLL) | (with_reducible exact Below.refl _ _) | (with_reducible refine Below.drew ?_)))); rintro e' w20 ⟨A20, c20, l20, rfl, hm20, hp20, hb20⟩; have hLL : Below wc.heap.size wc w20 := Below.thru5 (by (repeat (first | (with_reducible exact hLL) | (with_reducible exact Below.refl _ _) | (with_reducible refine Below.drew ?_)))) hb20; have hK1 := hp20; have hK2 := hm20; have hK3 := hLL; clear hp20 hm20)
                | (go_at_call 29; (with_reducible refine (HSP.out _ _ _ _ hK2 hK1 hK3 _ ?i7).mono ?_); (case i7 => (first | (with_reducible exact Below.refl _ _) | (with_reducible exact (Below.refl _ _).drew) | (with_reducible exact (Below.refl _ _).drew.drew))); rintro e' w20 ⟨rfl, hb20⟩; have hLL : Below wc.heap.size wc w20 := Below.thru5 (by (repeat (first | (with_reducible exact hLL) | (with_reducible exact Below.refl _ _) | (with_reducible refine Below.drew ?_)))) hb20)
                | (go_at_call 32; (with_reducible refine (HSU.out _ ?i8).mono ?_); (case i8 => (repeat (first | (with_reducible exact hLL) | (with_reducible exact Below.refl _ _) | (with_reducible refine Below.drew ?_)))); rintro e' w20 ⟨A20, c20, rfl, ho20, hb20⟩; have hLL : Below wc.heap.size wc w20 := Below.thru5 (by (repeat (first | (with_reducible exact hLL) | (with_reducible exact Below.refl _ _) | (with_reducible refine Below.drew ?_)))) hb20; have hK4 := Reads.of_own ho20; have hK5 := hLL; clear ho20)
                | (go_at_call 31; (with_reducible refine (HES.out _ _ _ hK4 hK5 _ ?i9).mono ?_); (case i9 => (first | (with_reducible exact Below.refl _ _) | (with_reducible exact (Below.refl _ _).drew) | (with_reducible exact (Below.refl _ _).drew.drew))); rintro e' w20 ⟨rfl, hb20⟩; have hLL : Below wc.heap.size wc w20 := Below.thru5 (by (repeat (first | (with_reducible exact hLL) | (with_reducible exact Below.refl _ _) | (with_reducible refine Below.drew ?_)))) hb20))
          all_goals
            rename_i hheld
            have RF := Lib.hid (PF.out _ hheld.1)
            clear hheld hLL
            go_wp2
            exact ⟨⟨j + 1, by omega, by simp, RF.out⟩, by simp [RowKit.intOf]; omega⟩
    · go_wp2
      go_ret
      exact ⟨rfl, P0.out.bel⟩
theorem nodePlays_walk (c : CfgD) (A1 : Option Addr) (c1 : Nat) (l1 : List RowT) (A2 : Option Addr) (c2 : Nat) (l2 : List ByteArray) (A3 : Option Addr) (c3 : Nat) (l3 : List ByteArray) (w : World) (hs : c.1.size ≤ maxLen)
    (r1 : Reads w w.heap.size 1 A1 l1.length (cellsRw l1)) (b1 : l1.length ≤ c1 ∧ c1 ≤ maxLen) (o1 : ∀ r ∈ l1, RowOk w w.heap.size r) (r2 : Reads w w.heap.size 1 A2 l2.length (cellsTx l2)) (b2 : l2.length ≤ c2 ∧ c2 ≤ maxLen) (o2 : ∀ s ∈ l2, s.size ≤ maxLen)
    (r3 : Reads w w.heap.size 1 A3 l3.length (cellsTx l3)) (b3 : l3.length ≤ c3 ∧ c3 ≤ maxLen) (o3 : ∀ s ∈ l3, s.size ≤ maxLen) :
    Calls Tryz.prog 3 #[cfgV c, .slice A1 l1.length c1, .slice A2 l2.length c2, .slice A3 l3.length c3] w fun e w' => e = .returned (.bool true) ∧ Below w.heap.size w w' := by
  obtain ⟨s, i, v, k, l⟩ := c
  by_cases he : cfgE (s, i, v, k, l) = 0
  · exact nodePlays_ok s i v k l he A1 A2 A3 c1 c2 c3 l1 l2 l3 w r1 b1 o1 r2 b2 o2 r3 b3 o3
  · exact nodePlays_no s i v k l hs _ rfl he A1 A2 A3 _ _ _ c1 c2 c3 w
end Go.Proofs.YtcikljcjhijjdaaGreat
