/- The desk's closures that make a town, and way. (with what it needs) -/
import Derived.Test.YthimchhnhhchkaaGreatDoorM47
import Derived.Test.YthimchhnhhchkaaGreatDoorM48
import Derived.Test.YthimchhnhhchkaaGreatDoorM04
import Derived.Test.YthimchhnhhchkaaGreatDoorM43
import Derived.Test.YthimchhnhhchkaaGreatDoorM42
namespace Go.Proofs.YthimchhnhhchkaaGreatDoor
open Go.RowKit Go.Lib
set_option linter.unusedSimpArgs false
set_option linter.unusedVariables false

theorem TGood.startD {l : List CfgD} (h5 : l.length ≤ 5) (hg : ∀ c ∈ l, cfgE c = 0) : TGood (TSt.start l) :=
  ⟨by simpa [TSt.start] using h5, fun p hp => by
    obtain ⟨c, hc, rfl⟩ := List.mem_map.1 hp
    exact (NGood.start (hg c hc)).watchAll l, by simp [TSt.start]⟩
theorem chkIds_goodD : ∀ (l : List CfgD) (ids : List ByteArray), chkIds ids l = 0 → ∀ c ∈ l, cfgE c = 0
  | [], _, _, c, hc => by cases hc
  | a :: l, ids, h, c, hc => by
    unfold chkIds at h
    by_cases h0 : cfgE a = 0
    · rw [if_pos h0] at h
      by_cases h1 : ids.any (fun x => decide (x = a.1)) = true
      · rw [if_pos h1] at h; cases h
      · rw [if_neg h1] at h
        rcases List.mem_cons.1 hc with rfl | hc
        · exact h0
        · exact chkIds_goodD l _ h c hc
    · rw [if_neg h0] at h
      exact absurd h h0
theorem newTE_goodD {l : List CfgD} (h : newTE l = 0) : l.length ≤ 5 ∧ ∀ c ∈ l, cfgE c = 0 := by
  unfold newTE at h
  by_cases h5 : 5 < l.length
  · rw [if_pos h5] at h; cases h
  · rw [if_neg h5] at h
    exact ⟨by omega, chkIds_goodD l _ h⟩
section
variable {w W W' W1 W2 : World} {F F' : Nat → Nat} {tb db c : Nat} {A : Option Addr} {tv : Value} {t : TSt} {s : DSt}
theorem TwAt.recol {G : Nat → Nat} (h : TwAt F W tb t) (hG : ∀ k c, ProgC c → (F k = c ↔ G k = c)) (h5 : t.L.length ≤ 5) : TwAt G W tb t := by
  obtain ⟨Aa, ca, nv, dv, wv, bs, r⟩ := h
  have hfun : ∀ c, ProgC c → (fun k => F k = c) = (fun k => G k = c) := fun c hc => funext fun k => propext (hG k c hc)
  have p : ∀ c, 1 ≤ c → c ≤ 5 → ProgC c := fun c h1 h2 => .inl ⟨h1, h2⟩
  refine ⟨Aa, ca, nv, dv, wv, bs, ⟨r.blk.1, (hG _ 1 (p 1 (by omega) (by omega))).1 r.blk.2⟩, ⟨r.all.1, fun hp a ha => (hG _ 2 (p 2 (by omega) (by omega))).1 (r.all.2 hp a ha)⟩, ⟨r.nds.1, fun k hk => (hG _ 3 (p 3 (by omega) (by omega))).1 (r.nds.2 k hk)⟩, ⟨r.ded.1, fun k hk => (hG _ 4 (p 4 (by omega) (by omega))).1 (r.ded.2 k hk)⟩, ⟨r.way.1, fun k hk => (hG _ 5 (p 5 (by omega) (by omega))).1 (r.way.2 k hk)⟩, r.len, fun i hi hi' => ?_⟩
  have := r.node i hi hi'
  rw [hfun (10 + i) (.inr (by omega))] at this
  exact this
/-- a town made anew, among the desk's own colours -/
theorem town_merge (hC : Col w W F) (hn : ∀ k, ¬ ProgC (F k)) (hb : Below W.heap.size W W1) (k : TwTo W1 (fun _ => 0) W1 tb t W2) (hg : TGood t) : TwTo w F W tb t W2 := by
  obtain ⟨F2, c2, m2, r2⟩ := k
  have q2 : ∀ k, F2 k = 0 ∨ (W1.heap.size ≤ k ∧ ProgC (F2 k)) := fun k => by
    by_cases hl : W1.heap.size ≤ k
    · by_cases h0 : F2 k = 0
      · exact .inl h0
      · exact .inr ⟨hl, m2.new k hl h0⟩
    · exact .inl (m2.old k (by omega))
  have hC1 := hC.below hb
  obtain ⟨G, hG⟩ : ∃ G : Nat → Nat, ∀ k, G k = if k < W1.heap.size then F k else F2 k := ⟨_, fun _ => rfl⟩
  have hs1 := hb.size
  have hs2 := c2.bel.size
  refine ⟨G, ⟨fun k h0 => ?_, fun k h0 => ?_, Below.thru5 hC1.bel c2.bel⟩, ⟨Kept.of_below (hb.trans (c2.bel.mono hs1)), fun k hk => by rw [hG, if_pos (by omega)], fun k hk h0 => ?_⟩, r2.recol (fun k c hc => ?_) hg.five⟩
  · rw [hG] at h0
    split at h0
    · exact hC.lo k h0
    · exact Nat.le_trans hC1.bel.size (c2.lo k h0)
  · rw [hG] at h0
    split at h0
    · exact Nat.lt_of_lt_of_le (hC.hi k h0) (by omega)
    · exact c2.hi k h0
  · rw [hG] at h0 ⊢
    split at h0
    · next hl => exact absurd (hC.hi k h0) (by omega)
    · next hl =>
      rw [if_neg hl]
      exact (q2 k).elim (fun e => absurd e h0) (fun e => e.2)
  · rw [hG]
    split
    · next hl =>
      constructor
      · intro e
        rcases q2 k with h | h
        · rw [h] at e; exact absurd (e ▸ hc) prog_zero
        · omega
      · intro e
        exact absurd (show ProgC (F k) by rw [e]; exact hc) (hn k)
    · exact Iff.rfl
/-- the town laid into the desk -/
theorem DskAt.started {L : List CfgD} (h : DskAt F W db (.pointer none) A c ⟨none, L⟩) (hC : Col w W F) (k : TwTo w F W tb t W') (hg : TGood t) : DTo w F W db ⟨some t, L⟩ (W'.setCell ⟨db, 0, none⟩ (.pointer (some ⟨tb, 0, none⟩))) := by
  obtain ⟨F', h1, h2, h3⟩ := k
  have b1 := h2.blk hC (by omega) prog_31 h.blk
  have n1 := h2.read hC (by omega) prog_32 h.nds
  have K : Kept (fun k => F' k = 31) W' (W'.setCell ⟨db, 0, none⟩ (.pointer (some ⟨tb, 0, none⟩))) := (Kept.refl _ W').setCell (a := ⟨db, 0, none⟩) (.inl b1.2) _
  have hsz : (W'.setCell ⟨db, 0, none⟩ (.pointer (some ⟨tb, 0, none⟩))).heap.size = W'.heap.size := by simp [World.setCell]
  have m : Moved (fun c => c = 31) F' W' F' (W'.setCell ⟨db, 0, none⟩ (.pointer (some ⟨tb, 0, none⟩))) := ⟨K, fun _ _ => rfl, fun k hl h0 => absurd (h1.hi k h0) (by omega)⟩
  have hp : ∀ c, c = 31 → ¬ ProgC c := fun c e => by rw [e]; exact prog_31
  refine ⟨F', _, A, c, ⟨h1.lo, fun k hk => by rw [hsz]; exact h1.hi k hk, h1.bel.setCell (p := ⟨db, 0, none⟩) (h1.lo db (by rw [b1.2]; omega)) _⟩, (h2.mono fun c hc => .inl hc).trans (m.mono fun c hc => .inr (.inl hc)), ⟨by have := b1.1.set_ 0 (.pointer (some ⟨tb, 0, none⟩)); simpa using this, b1.2⟩, m.read h1 (by omega) (by omega) n1, h.five, h.ids, tb, rfl, h3.otherM h1 m hp hg.five, hg⟩
end
/-- start: what becomes of the desk -/
def DSt.startE (s : DSt) : Int := match s.T with | some _ => 5 | none => newTE s.L
def DSt.started (s : DSt) : DSt := if s.startE = 0 then ⟨some (TSt.start s.L), s.L⟩ else s
set_option maxHeartbeats 1000000 in
set_option maxRecDepth 100000 in
theorem asks_start {w W : World} {F : Nat → Nat} {pd db c : Nat} {A : Option Addr} {tv : Value} {s : DSt} (hC : Col w W F) (hpd : BoxA F W pd 35 #[.pointer (some ⟨db, 0, none⟩)]) (h : DskAt F W db tv A c s) :
    Calls Tryz.prog 70 #[.pointer (some ⟨pd, 0, none⟩)] W fun e W' => AnsE s.startE ⟨#[111, 107]⟩ e ∧ DTo w F W db s.started W' := by
  have lpd := hpd.blk.lt
  have ldb := h.blk.1.lt
  have c0 := hpd.blk.cell 0
  have d0 := h.blk.1.cell 0
  have d1 := h.blk.1.cell 1
  simp at c0 d0 d1
  have HH := Lib.hid h
  obtain ⟨st, L⟩ := s
  have ht := h.town
  cases st with
  | some t =>
    obtain ⟨tb, rfl, -⟩ := ht
    have hE : (DSt.mk (some t) L).startE = 5 := rfl
    have hS : (DSt.mk (some t) L).started = ⟨some t, L⟩ := by unfold DSt.started; rw [hE, if_neg (by decide)]
    rw [hE, hS]
    have FIN := Lib.hid (show AnsE 5 ⟨#[111, 107]⟩ (fltE 5) ∧ DTo w F W db ⟨some t, L⟩ W from ⟨.inr ⟨by decide, rfl⟩, h.dto hC⟩)
    clear h hpd hC HH hE hS
    go_enter Tryz.func70, Tryz.ntmps70
    go_wp2_with fail
    refine (bad_any 5 _).mono ?_
    rintro e' w1 ⟨rfl, rfl⟩
    simp only [fltE]
    go_wp2
    exact ⟨rfl, FIN.out⟩
  | none =>
    obtain ⟨rfl, hn⟩ := ht
    have hE : (DSt.mk none L).startE = newTE L := rfl
    have HN := Lib.hid (tnew_any A c L h.ids W h.nds.1)
    have HC := Lib.hid hC
    have HM := Lib.hid (fun tb W2 => town_merge (w := w) (tb := tb) (t := TSt.start L) (W2 := W2) hC hn (Below.refl _ W))
    have hb0 := h.blk
    clear h hpd hC
    simp only at HN d1
    by_cases h0 : newTE L = 0
    · have hS : (DSt.mk none L).started = ⟨some (TSt.start L), L⟩ := by unfold DSt.started; rw [hE, if_pos h0]
      rw [hS, hE, h0]
      have HZ := Lib.hid h0
      clear h0 hS hE
      go_enter Tryz.func70, Tryz.ntmps70
      go_wp2_with fail
      refine HN.out.mono ?_
      rintro e' w2 (⟨-, tb, rfl, hto⟩ | ⟨h0, -⟩)
      · have HG := Lib.hid (TGood.startD (newTE_goodD HZ.out).1 (newTE_goodD HZ.out).2)
        have HT := Lib.hid (HM.out tb w2 hto HG.out)
        have FIN := Lib.hid (HH.out.started HC.out HT.out HG.out)
        have k2 : Kept (fun k => ProgC (F k)) W w2 := HT.out.kept
        have lpd2 : pd < w2.heap.size := Nat.lt_of_lt_of_le lpd k2.size
        have ldb2 : db < w2.heap.size := Nat.lt_of_lt_of_le ldb k2.size
        have hkb : Kept (fun k => False) W w2 := .of_below hto.choose_spec.1.bel
        have c0' := hkb.cell c0 id
        have B2 := hkb.blk hb0.1 id
        have z0' := B2.frozen 0
        have d0' := B2.cell 0
        simp at d0'
        clear hto k2 hkb B2 c0 d0 d1 hb0
        go_wp2_with fail
        refine (must_ok _).mono ?_
        rintro e' w3 ⟨rfl, rfl⟩
        go_wp2
        go_ret
        exact ⟨.inl ⟨rfl, rfl⟩, FIN.out⟩
      · exact absurd HZ.out h0
    · have hS : (DSt.mk none L).started = ⟨none, L⟩ := by unfold DSt.started; rw [hE, if_neg h0]
      rw [hS, hE]
      have HZ := Lib.hid h0
      clear h0 hS hE
      go_enter Tryz.func70, Tryz.ntmps70
      go_wp2_with fail
      refine HN.out.mono ?_
      rintro e' w2 (⟨h0, -⟩ | ⟨-, rfl, hb2⟩)
      · exact absurd h0 HZ.out
      · have FIN := Lib.hid ((HH.out.dto HC.out).more hb2)
        clear hb2 c0 d0 d1 hb0
        go_wp2_with fail
        refine (must_no _ HZ.out _).mono ?_
        rintro e' w3 ⟨rfl, rfl⟩
        simp only [fltE]
        go_wp2
        exact ⟨rfl, .inr ⟨HZ.out, rfl⟩, FIN.out⟩
/-- what is under way -/
theorem tway_any {w W : World} {F : Nat → Nat} {tb : Nat} {t : TSt} (h : TwAt F W tb t) (hg : TGood t) : Calls Tryz.prog 73 #[.pointer (some ⟨tb, 0, none⟩)] W (NewT t.way.length (cellsTx t.way) W) := by
  obtain ⟨_, _, _, _, _, _, k⟩ := h
  have hw := hg.way
  obtain ⟨htb, -, -, -, b3⟩ := k.cells
  obtain ⟨Aw, cw, rfl⟩ := ownsRow_len k.way.1
  have HCL := Lib.hid (clT_any Aw cw t.way.length W.heap.size (cellsTx t.way) hw (oneCell_T _) W (Reads.of_own k.way.1) (Nat.le_refl _))
  clear k
  generalize cellsTx t.way = xs at *
  generalize t.way.length = m at *
  go_enter Tryz.func73, Tryz.ntmps73
  go_wp2_with fail
  refine HCL.out.mono ?_
  rintro e' w2 ⟨A9, c9, rfl, h9, hb9⟩
  have H9 := Lib.hid (show NewT m xs W (.returned (.slice A9 m c9)) w2 from ⟨A9, c9, rfl, h9, hb9⟩)
  clear h9 hb9
  go_wp2
  go_ret
  exact H9.out
/-- how numbers are told -/
def SayT (l : List Int) (out : ByteArray) : Prop := ∀ (W : World) (A : Option Addr) (c : Nat), Reads W W.heap.size 1 A l.length (l.map fun n => Value.int .i64 n) → Calls Tryz.prog 51 #[.slice A l.length c] W fun x W' => x = .returned (.string out) ∧ Below W.heap.size W W'
theorem sayT_ok (l : List Nat) (hn : l.length ≤ 100) (hs : ∀ k ∈ l, k < 100) : SayT (l.map fun (n : Nat) => (n : Int)) (toldT l) := fun W A c hr => by
  have e : (l.map fun (n : Nat) => (n : Int)).length = l.length := by simp
  rw [e] at hr ⊢
  exact dtold_any A c l.length l rfl hn hs W (by simpa [cellsNt, List.map_map, Function.comp_def] using hr)
set_option maxHeartbeats 1000000 in
set_option maxRecDepth 100000 in
theorem asks_way {w W : World} {F : Nat → Nat} {pd db tb : Nat} {nv : Value} {t : TSt} (hC : Col w W F) (ht : TwAt F W tb t) (hg : TGood t) (hpd : BoxA F W pd 35 #[.pointer (some ⟨db, 0, none⟩)]) (hk : BlkC F 31 W db 39 #[.pointer (some ⟨tb, 0, none⟩), nv]) {out : ByteArray} (hs : SayT [(t.way.length : Int)] out) :
    Calls Tryz.prog 71 #[.pointer (some ⟨pd, 0, none⟩)] W fun e W' => e = .returned (.string out) ∧ Below W.heap.size W W' := by
  have HT := Lib.hid (there_ok db tb nv W hk.1)
  have HW := Lib.hid (tway_any (w := w) ht hg)
  have hwl := hg.way
  have lpd := hpd.blk.lt
  have ldb := hk.1.lt
  have c0 := hpd.blk.cell 0
  have d0 := hk.1.cell 0
  simp at c0 d0
  have HS := Lib.hid hs
  clear ht hg hpd hk hC hs
  generalize cellsTx t.way = xs at *
  generalize t.way.length = n at *
  go_enter Tryz.func71, Tryz.ntmps71
  go_wp2_with fail
  refine HT.out.mono ?_
  rintro e' w1 ⟨rfl, rfl⟩
  go_wp2_with fail
  refine HW.out.mono ?_
  rintro e' w2 ⟨A2, c2, rfl, h2, hb2⟩
  have HB2 := Lib.hid hb2
  have HBK := Lib.hid (Blk.new w2 3 #[.int .i64 (n : Int)])
  have HY := Lib.hid (HS.out (w2.alloc (.cells #[.int .i64 (n : Int)] 3)) (some ⟨w2.heap.size, 0, none⟩) 1 ⟨rfl, fun _ => ⟨_, rfl, HBK.out.lt, fun j v hj => by
      rcases j with _ | j
      · cases hj; exact HBK.out.cell 0
      · simp at hj⟩⟩)
  clear h2 hb2 c0 d0
  go_wp2_with fail
  refine HY.out.mono ?_
  rintro e' w3 ⟨rfl, hb3⟩
  have FIN := Lib.hid (Below.thru5 (HB2.out.alloc HB2.out.size _) hb3)
  clear hb3
  go_wp2
  go_ret
  exact ⟨rfl, FIN.out⟩
end Go.Proofs.YthimchhnhhchkaaGreatDoor

namespace Go.Proofs.YthimchhnhhchkaaGreatDoor
open Go.RowKit Go.Lib
set_option linter.unusedSimpArgs false
set_option linter.unusedVariables false

theorem cellsCf_app (l m : List CfgD) : cellsCf (l ++ m) = cellsCf l ++ cellsCf m := by
  induction l with
  | nil => rfl
  | cons x l ih => simp [cellsCf, ih]
theorem cellsCf_snoc (l : List CfgD) (x : CfgD) : cellsCf (l ++ [x]) = cellsCf l ++ ccells x := by
  rw [cellsCf_app]
  simp [cellsCf]
theorem oneCell_cf : ∀ l : List CfgD, ∀ u ∈ cellsCf l, u.oneCell' = true
  | [], u, hu => by cases hu
  | c :: l, u, hu => by
    rcases List.mem_append.1 hu with h | h
    · simp only [ccells, List.mem_cons, List.not_mem_nil, or_false] at h
      rcases h with rfl | rfl | rfl | rfl | rfl <;> rfl
    · exact oneCell_cf l u h
theorem reads_cf (w : World) (t : TypeId) (x : CfgD) : Reads (w.alloc (.cells #[.string x.1, .int .i64 (cfi x), .int .i64 (cfe x), .int .i64 (cfc x), .int .i64 (cfl x)] t)) (w.heap.size + 1) 5 (some ⟨w.heap.size, 0, none⟩) 1 (ccells x) := by
  have hB := Blk.new w t #[.string x.1, .int .i64 (cfi x), .int .i64 (cfe x), .int .i64 (cfc x), .int .i64 (cfl x)]
  exact ⟨rfl, fun _ => ⟨_, rfl, by simp, fun j v hj => by
    have hj5 : j < 5 := (List.getElem?_eq_some_iff.1 hj).1
    rcases j with _ | _ | _ | _ | _ | j
    · cases hj; exact hB.cell 0
    · cases hj; exact hB.cell 1
    · cases hj; exact hB.cell 2
    · cases hj; exact hB.cell 3
    · cases hj; exact hB.cell 4
    · omega⟩⟩
theorem DskAt.noded {w W w9 w2 : World} {F : Nat → Nat} {db c c9 : Nat} {A A9 : Option Addr} {L : List CfgD} {x : CfgD} (h : DskAt F W db (.pointer none) A c ⟨none, L⟩) (hC : Col w W F) (hb9 : Below W.heap.size W w9) (hown : w9.ownsRow W.heap.size 100 5 (.slice A9 (L.length + 1) c9) (L.length + 1) (cellsCf L ++ ccells x)) (hb2 : Below w9.heap.size w9 w2)
    (h5 : (L ++ [x]).length ≤ 5) (hx : x.1.size ≤ maxLen) : DTo w F W db ⟨none, L ++ [x]⟩ (w2.setCell ⟨db, 1, none⟩ (.slice A9 (L.length + 1) c9)) := by
  have hs9 := hb9.size
  have hs2 := hb2.size
  have hbW : Below W.heap.size W w2 := Below.thru5 hb9 hb2
  have K0 : Kept (fun k => F k = 32) W w2 := .of_below hbW
  have c2 := hC.paint (c := 32) (by omega) K0
  have m2 := Moved.paint hC K0
  have b1 := m2.blk hC (c' := 31) (by omega) (by omega) h.blk
  have K : Kept (fun k => paint F W w2 32 k = 31) w2 (w2.setCell ⟨db, 1, none⟩ (.slice A9 (L.length + 1) c9)) := (Kept.refl _ w2).setCell (a := ⟨db, 1, none⟩) (.inl b1.2) _
  have hsz : (w2.setCell ⟨db, 1, none⟩ (.slice A9 (L.length + 1) c9)).heap.size = w2.heap.size := by simp [World.setCell]
  have m : Moved (fun c => c = 31) (paint F W w2 32) w2 (paint F W w2 32) (w2.setCell ⟨db, 1, none⟩ (.slice A9 (L.length + 1) c9)) := ⟨K, fun _ _ => rfl, fun k hl h0 => absurd (c2.hi k h0) (by omega)⟩
  have hR : ReadC (paint F W w2 32) 32 w2 5 (L ++ [x]).length A9 (cellsCf (L ++ [x])) := by
    rw [cellsCf_snoc, List.length_append, List.length_singleton]
    refine ⟨((Reads.of_own hown).below hb2 (Nat.le_refl _)).more hb2.size, fun _ a ha => ?_⟩
    subst ha
    have := hown.lt a.block rfl
    exact paint_new this.1 (by omega)
  have el : (L ++ [x]).length = L.length + 1 := by simp
  refine ⟨paint F W w2 32, .pointer none, A9, c9, ⟨c2.lo, fun k hk => by rw [hsz]; exact c2.hi k hk, c2.bel.setCell (p := ⟨db, 1, none⟩) (c2.lo db (by rw [b1.2]; omega)) _⟩, (m2.mono fun c hc => .inr (.inr hc)).trans (m.mono fun c hc => .inr (.inl hc)), ⟨?_, b1.2⟩, m.read c2 (by omega) (by omega) hR, h5, fun y hy => ?_, rfl, fun k e => ?_⟩
  · have := b1.1.set_ 1 (.slice A9 (L.length + 1) c9)
    simp only [el]
    simpa using this
  · rcases List.mem_append.1 hy with hy | hy
    · exact h.ids y hy
    · rcases List.mem_singleton.1 hy with rfl
      exact hx
  · have hn := h.town.2 k
    unfold Go.Proofs.YthimchhnhhchkaaGreatDoor.paint at e
    split at e
    · exact prog_32 e
    · exact hn e
/-- node: what becomes of the desk -/
def DSt.nodeE (s : DSt) (x : CfgD) : Int := match s.T with | some _ => 5 | none => newTE (s.L ++ [x])
def DSt.noded (s : DSt) (x : CfgD) : DSt := if s.nodeE x = 0 then ⟨none, s.L ++ [x]⟩ else s
set_option maxHeartbeats 4000000 in
set_option maxRecDepth 100000 in
theorem asks_node {w W : World} {F : Nat → Nat} {pd pc db c : Nat} {A : Option Addr} {tv : Value} {s : DSt} {x : CfgD} (hC : Col w W F) (hpd : BoxA F W pd 35 #[.pointer (some ⟨db, 0, none⟩)]) (hpc : BoxA F W pc 100 #[.string x.1, .int .i64 (cfi x), .int .i64 (cfe x), .int .i64 (cfc x), .int .i64 (cfl x)]) (hx : x.1.size ≤ maxLen) (h : DskAt F W db tv A c s) :
    Calls Tryz.prog 68 #[.pointer (some ⟨pd, 0, none⟩), .pointer (some ⟨pc, 0, none⟩)] W fun e W' => AnsE (s.nodeE x) ⟨#[111, 107]⟩ e ∧ DTo w F W db (s.noded x) W' := by
  have lpd := hpd.blk.lt
  have ldb := h.blk.1.lt
  have lpc := hpc.blk.lt
  have c0 := hpd.blk.cell 0
  have d0 := h.blk.1.cell 0
  have d1 := h.blk.1.cell 1
  simp at c0 d0 d1
  have HH := Lib.hid h
  obtain ⟨st, L⟩ := s
  have ht := h.town
  cases st with
  | some t =>
    obtain ⟨tb, rfl, -⟩ := ht
    have hE : (DSt.mk (some t) L).nodeE x = 5 := rfl
    have hS : (DSt.mk (some t) L).noded x = ⟨some t, L⟩ := by unfold DSt.noded; rw [hE, if_neg (by decide)]
    rw [hE, hS]
    have FIN := Lib.hid (show AnsE 5 ⟨#[111, 107]⟩ (fltE 5) ∧ DTo w F W db ⟨some t, L⟩ W from ⟨.inr ⟨by decide, rfl⟩, h.dto hC⟩)
    clear h hpd hC HH hE hS hpc
    go_enter Tryz.func68, Tryz.ntmps68
    go_wp2_with fail
    refine (bad_any 5 _).mono ?_
    rintro e' w1 ⟨rfl, rfl⟩
    simp only [fltE]
    go_wp2
    exact ⟨rfl, FIN.out⟩
  | none =>
    obtain ⟨i0, hi, hz0, hz1, hz2⟩ := info_parts clCf_info
    obtain ⟨rfl, hn⟩ := ht
    have hE : (DSt.mk none L).nodeE x = newTE (L ++ [x]) := rfl
    have HC := Lib.hid hC
    have HX := Lib.hid hx
    have HB := Lib.hid h.blk.1
    have hL5 : L.length ≤ 5 := h.five
    have R := Lib.hid (show Reads W W.heap.size 5 A L.length (cellsCf L) from h.nds.1)
    have H1 := Lib.hid (oneCell_cf L)
    have H2 := Lib.hid (show ∀ u ∈ ccells x, u.oneCell' = true by have := oneCell_cf [x]; simpa [cellsCf] using this)
    have HRE := Lib.hid (fun w' => reads_cf w' 100 x)
    have HI := Lib.hid (show ∀ y ∈ L ++ [x], y.1.size ≤ maxLen from fun y hy => by
      rcases List.mem_append.1 hy with hy | hy
      · exact h.ids y hy
      · rcases List.mem_singleton.1 hy with rfl
        exact hx)
    have HBP := Lib.hid hpd.blk
    have HBC := Lib.hid hpc.blk
    have HS := Lib.hid (show ∀ w', Below W.heap.size W w' → (Below W.heap.size W w' ∧ w'.cell? ⟨pd, 0, none⟩ = some (.pointer (some ⟨db, 0, none⟩)) ∧ w'.cell? ⟨db, 1, none⟩ = some (.slice A L.length c) ∧ w'.cell? ⟨pc, 0, none⟩ = some (.string x.1) ∧ w'.cell? ⟨pc, 1, none⟩ = some (.int .i64 (cfi x)) ∧ w'.cell? ⟨pc, 2, none⟩ = some (.int .i64 (cfe x)) ∧ w'.cell? ⟨pc, 3, none⟩ = some (.int .i64 (cfc x)) ∧ w'.cell? ⟨pc, 4, none⟩ = some (.int .i64 (cfl x))) from
      fun w' hb => ⟨hb, (HBP.out.below hb lpd).cell 0, (HB.out.below hb ldb).cell 1, (HBC.out.below hb lpc).cell 0, (HBC.out.below hb lpc).cell 1, (HBC.out.below hb lpc).cell 2, (HBC.out.below hb lpc).cell 3, (HBC.out.below hb lpc).cell 4⟩)
    have HNX := Lib.hid (fun (A9 : Option Addr) (c9 : Nat) (w9 : World) (ho : w9.ownsRow W.heap.size 100 5 (.slice A9 (L.length + 1) c9) (L.length + 1) (cellsCf L ++ ccells x)) =>
      show Calls Tryz.prog 69 #[.slice A9 (L.length + 1) c9] w9 (TnewIs w9 (L ++ [x])) by
        have hr := Reads.of_own ho
        have := tnew_any A9 c9 (L ++ [x]) HI.out w9 (by rw [cellsCf_snoc, List.length_append, List.length_singleton]; exact hr)
        rwa [List.length_append, List.length_singleton] at this)
    have hS : (DSt.mk none L).noded x = if newTE (L ++ [x]) = 0 then ⟨none, L ++ [x]⟩ else ⟨none, L⟩ := rfl
    clear h hpd hC hpc hx
    simp only at d1
    rw [hE, hS]
    clear hE hS
    generalize hqq : (if newTE (L ++ [x]) = 0 then (⟨none, L ++ [x]⟩ : DSt) else ⟨none, L⟩) = qq
    have HQ := Lib.hid hqq
    clear hqq
    generalize hee : newTE (L ++ [x]) = ee
    have HE := Lib.hid hee
    clear hee
    go_enter Tryz.func68, Tryz.ntmps68
    go_wp2_with fail
    go_region_held3 (fun w' => Below W.heap.size W w' ∧ w'.cell? ⟨pd, 0, none⟩ = some (.pointer (some ⟨db, 0, none⟩)) ∧ w'.cell? ⟨db, 1, none⟩ = some (.slice A L.length c) ∧ w'.cell? ⟨pc, 0, none⟩ = some (.string x.1) ∧ w'.cell? ⟨pc, 1, none⟩ = some (.int .i64 (cfi x)) ∧ w'.cell? ⟨pc, 2, none⟩ = some (.int .i64 (cfe x)) ∧ w'.cell? ⟨pc, 3, none⟩ = some (.int .i64 (cfc x)) ∧ w'.cell? ⟨pc, 4, none⟩ = some (.int .i64 (cfl x)))
      ((refine HS.out _ ?_; first | exact hL9 | exact (Below.alloc hL8 hL8.size _) | exact hL8 | (with_reducible exact Below.refl _ _) | (with_reducible exact (Below.refl _ _).drew) | exact (Below.refl _ _).drew.alloc (Nat.le_refl _) _))
      (first
      | ((refine step_appN (by rfl) _ _ _ (by rfl) _ 100 i0 _ 5 48 Tryz.underlying37 hi hz0 hz1 hz2 rfl (by decide) (.slice none 0 0) 0 [] (by rfl) (World.ownsRow_nil _ _ _ _) _ _ _ _ _ (by rfl) (R.out.below (And.left (by assumption)) (Nat.le_refl _)) H1.out (by unfold maxLen; omega) (by omega) (Nat.le_refl _) ?_; intro v8 w8 hown8 hb8; obtain ⟨A8, c8, rfl⟩ := ownsRow_len hown8; have hL8 : Below W.heap.size W w8 := Below.thru5 (And.left (by assumption)) hb8; have ho8 := ownsRow_base hown8 (Below.size (And.left (by assumption))); simp only [Nat.zero_add, List.nil_append] at ho8 ⊢))
      | ((refine step_appN (by rfl) _ _ _ (by rfl) W.heap.size 100 i0 _ 5 48 Tryz.underlying37 hi hz0 hz1 hz2 rfl (by decide) _ _ _ (by rfl) (ho8.alloc _) _ _ _ _ _ (by rfl) (HRE.out _) H2.out (by unfold maxLen; omega) (by omega) (by exact Below.size (And.left (by assumption))) ?_; intro v9 w9 hown9 hb9; obtain ⟨A9, c9, rfl⟩ := ownsRow_len hown9; have hL9 : Below W.heap.size W w9 := Below.trans (And.left (by assumption)) hb9))
      | ((refine step_appN (by rfl) _ _ _ (by rfl) W.heap.size 100 i0 _ 5 48 Tryz.underlying37 hi hz0 hz1 hz2 rfl (by decide) _ _ _ (by rfl) ho8 _ _ _ _ _ (by rfl) ((HRE.out _).drew.below hb8 (by simp)) H2.out (by unfold maxLen; omega) (by omega) (by exact Below.size (And.left (by assumption))) ?_; intro v9 w9 hown9 hb9; obtain ⟨A9, c9, rfl⟩ := ownsRow_len hown9; have hL9 : Below W.heap.size W w9 := Below.trans (And.left (by assumption)) hb9)))
    all_goals
      have L9 := Lib.hid hL9
      have O9 := Lib.hid hown9
      clear hL8 hL9 hown8 hown9 ho8 hb8 hb9
      rename_i hheld
      clear hheld
      have HN9 := Lib.hid (HNX.out A9 c9 w9 O9.out)
      go_wp2_with fail
      refine HN9.out.mono ?_
      rintro e' w2 (⟨h0, tb, rfl, hto⟩ | ⟨h0, rfl, hb2⟩)
      · have HB2 := Lib.hid (show Below w9.heap.size w9 w2 from hto.choose_spec.1.bel)
        have BW := Lib.hid (Below.thru5 L9.out HB2.out)
        have FIN := Lib.hid (HH.out.noded HC.out L9.out O9.out HB2.out (newTE_goodD h0).1 HX.out)
        have e0 : ee = 0 := HE.out.symm.trans h0
        have eq : qq = ⟨none, L ++ [x]⟩ := by rw [← HQ.out, if_pos h0]
        subst e0 eq
        have lpd2 : pd < w2.heap.size := Nat.lt_of_lt_of_le lpd BW.out.size
        have ldb2 : db < w2.heap.size := Nat.lt_of_lt_of_le ldb BW.out.size
        have q0 := (HBP.out.below BW.out lpd).cell 0
        have z1 := (HB.out.below BW.out ldb).frozen 1
        have q1 := (HB.out.below BW.out ldb).cell 1
        simp at q0 q1
        clear h0 hto c0 d0 d1 HQ HE
        go_wp2_with fail
        refine (must_ok _).mono ?_
        rintro e' w3 ⟨rfl, rfl⟩
        go_wp2
        go_ret
        exact ⟨.inl ⟨rfl, rfl⟩, FIN.out⟩
      · have FIN := Lib.hid ((HH.out.dto HC.out).more (Below.thru5 L9.out hb2))
        have eq : qq = ⟨none, L⟩ := by rw [← HQ.out, if_neg h0]
        subst eq
        have HZ := Lib.hid (show ee ≠ 0 from HE.out ▸ h0)
        have e1 := HE.out
        clear hb2 c0 d0 d1
        go_wp2_with fail
        refine (must_no _ (by first | exact HZ.out | exact h0) _).mono ?_
        rintro e' w3 ⟨rfl, rfl⟩
        simp only [fltE]
        go_wp2
        exact ⟨rfl, .inr ⟨HZ.out, by rw [← e1]; rfl⟩, FIN.out⟩
end Go.Proofs.YthimchhnhhchkaaGreatDoor

namespace Go.Proofs.YthimchhnhhchkaaGreatDoor
open Go.RowKit Go.Lib
set_option linter.unusedSimpArgs false
set_option linter.unusedVariables false

/-- a word that is a number -/
def NumW (x : ByteArray) (k : Int) : Prop := ∀ W : World, Calls Tryz.prog 99 #[.string x] W fun e W' => e = .returned (.int .i64 k) ∧ Below W.heap.size W W'
theorem numW_small {k : Nat} (hk : k < 100) : NumW (numT k) (k : Int) := fun W => number_lit k hk W
/-- the words of a line, at a place: all that their being taken asks -/
structure WAt (W : World) (wb : Nat) (A : Option Addr) (c : Nat) (l : List ByteArray) (i : Nat) : Prop where
  wds : Wds W wb A l.length c i
  rd : Reads W W.heap.size 1 A l.length (cellsTx l)
  far : ∀ a, A = some a → a.block ≠ wb
  cap : l.length ≤ c ∧ c ≤ maxLen
theorem WAt.kept {W W' : World} {wb c i j : Nat} {A : Option Addr} {l : List ByteArray} (h : WAt W wb A c l i) (hk : Kept (fun x => x = wb) W W') (hw : Wds W' wb A l.length c j) : WAt W' wb A c l j :=
  ⟨hw, (hk.reads h.rd (fun _ a ha e => h.far a ha e)).more hk.size, h.far, h.cap⟩
theorem WAt.below {W W' : World} {wb c i : Nat} {A : Option Addr} {l : List ByteArray} (h : WAt W wb A c l i) (hb : Below W.heap.size W W') : WAt W' wb A c l i :=
  ⟨h.wds.below hb h.wds.lt, (h.rd.below hb (Nat.le_refl _)).more hb.size, h.far, h.cap⟩
theorem nextG {W : World} {wb c i : Nat} {A : Option Addr} {l : List ByteArray} (h : WAt W wb A c l i) (x : ByteArray) (hx : l[i]? = some x) :
    Calls Tryz.prog 42 #[.pointer (some ⟨wb, 0, none⟩)] W fun e W' => e = .returned (.string x) ∧ Kept (fun y => y = wb) W W' ∧ WAt W' wb A c l (i + 1) := by
  obtain ⟨hi, he⟩ := List.getElem?_eq_some_iff.1 hx
  subst he
  exact (next_ok wb A l.length c i l rfl h.cap.1 h.cap.2 hi W h.wds h.rd h.far).mono fun e W' ⟨h1, h2, h3⟩ => ⟨h1, h2, h.kept h2 h3⟩
set_option maxRecDepth 100000 in
theorem numG {W : World} {wb c i : Nat} {A : Option Addr} {l : List ByteArray} (h : WAt W wb A c l i) (x : ByteArray) (hx : l[i]? = some x) (k : Int) (hk : NumW x k) :
    Calls Tryz.prog 56 #[.pointer (some ⟨wb, 0, none⟩)] W fun e W' => e = .returned (.int .i64 k) ∧ Kept (fun y => y = wb) W W' ∧ WAt W' wb A c l (i + 1) := by
  have HN := Lib.hid (nextG h x hx)
  have HK := Lib.hid hk
  clear hk hx h
  go_enter Tryz.func56, Tryz.ntmps56
  go_wp2_with fail
  refine HN.out.mono ?_
  rintro e' w1 ⟨rfl, hk1, hd1⟩
  have K1 := Lib.hid hk1
  have D1 := Lib.hid hd1
  clear hk1 hd1
  go_wp2_with fail
  refine (HK.out w1).mono ?_
  rintro e' w2 ⟨rfl, hb2⟩
  have K2 := Lib.hid (K1.out.step hb2)
  have D2 := Lib.hid (D1.out.below hb2)
  clear hb2
  go_wp2
  go_ret
  exact ⟨rfl, K2.out, D2.out⟩
theorem endG {W : World} {wb c : Nat} {A : Option Addr} {l : List ByteArray} (h : WAt W wb A c l l.length) :
    Calls Tryz.prog 21 #[.pointer (some ⟨wb, 0, none⟩)] W fun x W' => x = .returned (.tuple #[]) ∧ Below W.heap.size W W' := end_ok wb A l.length c W h.wds
/-- a block of the call's own, beside the words -/
def Bx (W : World) (wb b : Nat) (T : TypeId) (cs : Array Value) : Prop := Blk W b T cs ∧ b ≠ wb
theorem Bx.kept {W W' : World} {wb b : Nat} {T : TypeId} {cs : Array Value} (h : Bx W wb b T cs) (hk : Kept (fun x => x = wb) W W') : Bx W' wb b T cs := ⟨hk.blk h.1 h.2, h.2⟩
/-- what a line asks of the desk: a closure, which answers -/
def AskTo (w : World) (F : Nat → Nat) (W : World) (db : Nat) (s' : DSt) (er : Int) (out : ByteArray) (s0 : ByteArray) (l : List ByteArray) (A : Option Addr) (c : Nat) : Prop :=
  ∀ (W1 : World) (wb : Nat), Below W.heap.size W W1 → W.heap.size ≤ wb → WAt W1 wb A c l 1 →
    Calls Tryz.prog 25 #[.pointer (some ⟨db, 0, none⟩), .string s0, .pointer (some ⟨wb, 0, none⟩)] W1 fun e W2 => ∃ fn caps, e = .returned (.func (.func fn) #[] caps) ∧ Kept (fun x => x = wb) W1 W2 ∧ WAt W2 wb A c l l.length ∧
      ∀ W3, Below W2.heap.size W2 W3 → (∀ args w, (callFunc fn args).run Tryz.prog w = .ok (.enter fn args) w) ∧ Calls Tryz.prog fn caps W3 fun e W4 => AnsE er out e ∧ DTo w F W3 db s' W4
/-- a captured variable, behind the line's asking -/
theorem Bx.box {w W W2 W3 : World} {F : Nat → Nat} {wb b : Nat} {T : TypeId} {cs : Array Value} (h : Bx W2 wb b T cs) (hC : Col w W F) (hb : W.heap.size ≤ b) (hb3 : Below W2.heap.size W2 W3) : BoxA F W3 b T cs := by
  refine ⟨h.1.below hb3 h.1.lt, ?_⟩
  by_cases h0 : F b = 0
  · exact h0
  · exact absurd (hC.hi b h0) (by omega)
theorem Below.alB5 {w W : World} {o : Obj} (h : Below w.heap.size w W) : Below w.heap.size w (W.alloc o) := h.alloc h.size _
end Go.Proofs.YthimchhnhhchkaaGreatDoor
