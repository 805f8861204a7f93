/- How a Config, and a list of them, among the arguments is opened. (with what it needs) -/
import Derived.Test.YthimchhnhhchkaaGreatDoorM39
import Derived.Test.YthimchhnhhchkaaGreatDoorM16
import Derived.Deep.Slices
import Derived.Deep.Fields
import Derived.ChangeSame
import Derived.Laws.OwnMore
namespace Go.Proofs.YthimchhnhhchkaaGreatDoor
open Go.RowKit Go.ChangeShapes Go.WideShapes Go.Joins Go.Deep
set_option linter.unusedSimpArgs false
set_option linter.unusedVariables false

def ccells (c : CfgD) : List Value := [.string c.1, .int .i64 (cfi c), .int .i64 (cfe c), .int .i64 (cfc c), .int .i64 (cfl c)]
section
variable {H : Type} {enc : TypeId × Value → H} {w : World} {base b0 : Nat} {spare : Nat → Bool} {held : Bool} {r : Reach} {v : Value} {d : DataW H} {p : List MemPlace}
set_option maxRecDepth 100000 in
theorem cfg_trod {fuel : Nat} {cs : List Value} {x : DataW H × List MemPlace} (hf : DataW.trod enc Tryz.prog w base spare held fuel 100 cs = some x) :
    ∃ c : CfgD, cs = ccells c ∧ c.1.size ≤ maxLen := by
  obtain ⟨xs, n, _, _, hl, hlen, hat⟩ := DataW.trod_struct Tryz.underlying100 hf
  have hl3 : cs.length = 5 := hl.trans (by kernel_rfl)
  have hlen3 : xs.length = 5 := hlen
  have k0 : Tryz.prog.cellsOf 9 = 1 := by kernel_rfl
  have k1 : Tryz.prog.cellsOf 3 = 1 := by kernel_rfl
  match cs, hl3 with
  | [c0, c1, c2, c3, c4], _ =>
    have h0 : DataW.trod enc Tryz.prog w base spare held n 9 (([c0, c1, c2, c3, c4].drop 0).take (Tryz.prog.cellsOf 9)) = xs[0]? := hat 0 _ rfl
    have h1 : DataW.trod enc Tryz.prog w base spare held n 3 (([c0, c1, c2, c3, c4].drop 1).take (Tryz.prog.cellsOf 3)) = xs[1]? := hat 1 _ rfl
    have h2 : DataW.trod enc Tryz.prog w base spare held n 3 (([c0, c1, c2, c3, c4].drop 2).take (Tryz.prog.cellsOf 3)) = xs[2]? := hat 2 _ rfl
    have h3 : DataW.trod enc Tryz.prog w base spare held n 3 (([c0, c1, c2, c3, c4].drop 3).take (Tryz.prog.cellsOf 3)) = xs[3]? := hat 3 _ rfl
    have h4 : DataW.trod enc Tryz.prog w base spare held n 3 (([c0, c1, c2, c3, c4].drop 4).take (Tryz.prog.cellsOf 3)) = xs[4]? := hat 4 _ rfl
    rw [k0] at h0
    rw [k1] at h1 h2 h3 h4
    rw [List.getElem?_eq_getElem (by omega)] at h0 h1 h2 h3 h4
    obtain ⟨s, e0, _, hs⟩ := DataW.trod_string Tryz.underlying9 h0
    obtain ⟨z1, e1, _, _⟩ := DataW.trod_int Tryz.underlying3 h1
    obtain ⟨z2, e2, _, _⟩ := DataW.trod_int Tryz.underlying3 h2
    obtain ⟨z3, e3, _, _⟩ := DataW.trod_int Tryz.underlying3 h3
    obtain ⟨z4, e4, _, _⟩ := DataW.trod_int Tryz.underlying3 h4
    simp at e0 e1 e2 e3 e4
    subst e0 e1 e2 e3 e4
    exact ⟨(s, z1, z2, z3, z4), rfl, hs⟩
set_option maxRecDepth 100000 in
theorem open_cfg (hv : Value.okWide Tryz.prog w r b0 100 v) (h : DataW.Trod enc Tryz.prog w base spare held 100 v d p) :
    ∃ c : CfgD, v = cfgV c ∧ c.1.size ≤ maxLen := by
  obtain ⟨cs, rfl, hsz⟩ := okWide_struct Tryz.underlying100 hv
  obtain ⟨fuel, hf⟩ := h
  obtain ⟨c, hc, hs⟩ := cfg_trod hf
  refine ⟨c, ?_, hs⟩
  obtain ⟨l⟩ := cs
  have : l = ccells c := by simpa [Value.cells] using hc
  rw [this]
  rfl
end
end Go.Proofs.YthimchhnhhchkaaGreatDoor

namespace Go.Proofs.YthimchhnhhchkaaGreatDoor
open Go.RowKit Go.Lib
set_option linter.unusedSimpArgs false
set_option linter.unusedVariables false

def cellsCf : List CfgD → List Value
  | [] => []
  | c :: l => ccells c ++ cellsCf l
theorem cellsCf_len : ∀ l : List CfgD, (cellsCf l).length = l.length * 5
  | [] => rfl
  | c :: l => by
    simp only [cellsCf, List.length_append, List.length_cons, cellsCf_len l]
    simp only [ccells, List.length_cons, List.length_nil]
    omega
theorem cellsCf_at : ∀ (l : List CfgD) (k j : Nat) (h : k < l.length), j < 5 → (cellsCf l)[k * 5 + j]? = (ccells (l[k]'h))[j]?
  | [], k, j, h, _ => by simp at h
  | c :: l, 0, j, _, hj => by
    rw [Nat.zero_mul, Nat.zero_add]
    simp only [cellsCf]
    rw [List.getElem?_append_left (by simpa [ccells] using hj)]
    rfl
  | c :: l, k + 1, j, h, hj => by
    have h5 : (ccells c).length = 5 := rfl
    simp only [cellsCf]
    rw [List.getElem?_append_right (by rw [h5]; omega), h5, show (k + 1) * 5 + j - 5 = k * 5 + j by omega, cellsCf_at l k j (by simpa using h) hj]
    rfl
def ptrs (bs : List Nat) : List Value := bs.map fun b => .pointer (some ⟨b, 0, none⟩)
def boolsV (l : List Bool) : List Value := l.map Value.bool
/-- the program's town -/
structure TownIs (F : Nat → Nat) (W : World) (tb : Nat) (Aa : Option Addr) (ca : Nat) (nv dv wv : Value) (bs : List Nat) (t : TSt) : Prop where
  blk : BlkC F 1 W tb 138 #[.slice Aa t.L.length ca, nv, dv, wv]
  all : ReadC F 2 W 5 t.L.length Aa (cellsCf (t.L.map fun p => p.1.c))
  nds : RowC F 3 W 140 1 t.L.length nv (ptrs bs)
  ded : RowC F 4 W 4 1 t.L.length dv (boolsV (t.L.map Prod.snd))
  way : RowC F 5 W 9 1 t.way.length wv (cellsTx t.way)
  len : bs.length = t.L.length
  node : ∀ i (h : i < bs.length) (h' : i < t.L.length), NodeAt (fun k => F k = 10 + i) W (bs[i]'h) (t.L[i]'h').1
/-- its own colours -/
def ProgC (c : Nat) : Prop := (1 ≤ c ∧ c ≤ 5) ∨ (10 ≤ c ∧ c < 20)
section
variable {w W W' : World} {F F' : Nat → Nat} {P : Nat → Prop} {tb ca c : Nat} {Aa : Option Addr} {nv dv wv : Value} {bs : List Nat} {t : TSt}
theorem TownIs.other (h : TownIs F W tb Aa ca nv dv wv bs t) (hC : Col w W F) (m : Moved P F W F' W') (hP : ∀ c, P c → ¬ ProgC c) (h5 : t.L.length ≤ 5) : TownIs F' W' tb Aa ca nv dv wv bs t := by
  have hn : ∀ c, ProgC c → ¬ P c := fun c h1 h2 => hP c h2 h1
  exact ⟨m.blk hC (by omega) (hn 1 (.inl (by omega))) h.blk, m.read hC (by omega) (hn 2 (.inl (by omega))) h.all, m.row hC (by omega) (hn 3 (.inl (by omega))) h.nds, m.row hC (by omega) (hn 4 (.inl (by omega))) h.ded, m.row hC (by omega) (hn 5 (.inl (by omega))) h.way, h.len,
    fun i hi hi' => m.hold hC (by omega) (hn (10 + i) (.inr (by omega))) (h.node i hi hi')⟩
theorem TownIs.below (h : TownIs F W tb Aa ca nv dv wv bs t) (hC : Col w W F) (hb : Below W.heap.size W W') (h5 : t.L.length ≤ 5) : TownIs F W' tb Aa ca nv dv wv bs t :=
  h.other hC (.below (P := fun _ => False) hC hb) (fun _ h => h.elim) h5
/-- a call of one node -/
theorem TownIs.turn {i : Nat} {s1 : NSt} {d : Bool} (h : TownIs F W tb Aa ca nv dv wv bs t) (hC : Col w W F) (hi : i < t.L.length) (hk : Kept (fun k => F k = 10 + i) W W') (hn : NodeAt (grow (fun k => F k = 10 + i) W W') W' (bs[i]'(by rw [h.len]; exact hi)) s1) (hcfg : s1.c = (t.L[i]'hi).1.c) (hd : d = (t.L[i]'hi).2) :
    TownIs (paint F W W' (10 + i)) W' tb Aa ca nv dv wv bs ⟨t.L.set i (s1, d), t.way⟩ := by
  have m := Moved.paint hC hk
  have e1 : (t.L.set i (s1, d)).map (fun p => p.1.c) = t.L.map (fun p => p.1.c) := by
    apply List.ext_getElem (by simp)
    intro j h1 h2
    simp only [List.getElem_map, List.getElem_set]
    split
    · next e => subst e; exact hcfg
    · rfl
  have e2 : (t.L.set i (s1, d)).map Prod.snd = t.L.map Prod.snd := by
    apply List.ext_getElem (by simp)
    intro j h1 h2
    simp only [List.getElem_map, List.getElem_set]
    split
    · next e => subst e; exact hd
    · rfl
  refine ⟨?_, ?_, ?_, ?_, m.row hC (by omega) (by omega) h.way, by simpa using h.len, fun j hj hj' => ?_⟩
  · simpa using m.blk hC (c' := 1) (by omega) (by omega) h.blk
  · have := m.read hC (c' := 2) (by omega) (by omega) h.all
    simpa [e1] using this
  · simpa using m.row hC (c' := 3) (by omega) (by omega) h.nds
  · have := m.row hC (c' := 4) (by omega) (by omega) h.ded
    simpa [e2] using this
  · by_cases e : j = i
    · subst e
      have : NodeAt (fun k => paint F W W' (10 + j) k = 10 + j) W' (bs[j]'hj) s1 := hC.held hk (by omega) hn
      simpa using this
    · have hj2 : j < t.L.length := by simpa using hj'
      have : NodeAt (fun k => paint F W W' (10 + i) k = 10 + j) W' (bs[j]'hj) (t.L[j]'hj2).1 := m.hold hC (c' := 10 + j) (by omega) (by omega) (h.node j hj hj2)
      simpa [List.getElem_set, Ne.symm e] using this
end
end Go.Proofs.YthimchhnhhchkaaGreatDoor

namespace Go.Proofs.YthimchhnhhchkaaGreatDoor
open Go.RowKit Go.Lib
set_option linter.unusedSimpArgs false
set_option linter.unusedVariables false

/-- a row of this kind that the call owns -/
def NewCf (n : Nat) (xs : List Value) (w : World) (e : Ending) (w' : World) : Prop := ∃ A c, e = .returned (.slice A n c) ∧ w'.ownsRow w.heap.size 100 5 (.slice A n c) n xs ∧ Below w.heap.size w w'
theorem clCf_info : (Tryz.prog.info? 100).map (fun i => (i.zero, i.size, i.bytes)) = some (some (.agg #[.string ByteArray.empty, .int .i64 0, .int .i64 0, .int .i64 0, .int .i64 0]), 5, 48) := by kernel_rfl
set_option maxHeartbeats 1000000 in
set_option maxRecDepth 100000 in
theorem clCf_nil (c : Nat) (w : World) :
    Calls Tryz.prog 108 #[.slice none 0 c] w fun e w' => e = .returned (.slice none 0 0) ∧ Below w.heap.size w w' := by
  have hnil := fun w => Lib.run_eql_slice_nil (P := Tryz.prog) w 37 100 none 0 c 0 0 Tryz.underlying37
  go_enter Tryz.func108, Tryz.ntmps108
  go_wp2
  go_ret
  exact ⟨rfl, Below.refl _ _⟩
set_option maxHeartbeats 1000000 in
set_option maxRecDepth 100000 in
theorem clCf_some (ad : Addr) (c n B : Nat) (xs : List Value) (hm : n ≤ 1000) (h1 : ∀ u ∈ xs, u.oneCell' = true) (w : World) (hr : Reads w B 5 (some ad) n xs) (hB : B ≤ w.heap.size) :
    Calls Tryz.prog 108 #[.slice (some ad) n c] w (NewCf n xs w) := by
  obtain ⟨i0, hi, hz0, hz1, hz2⟩ := info_parts clCf_info
  have HO := Lib.hid (show (w.alloc (.cells #[] 100)).ownsRow w.heap.size 100 5 (.slice (some ⟨w.heap.size, 0, none⟩) 0 0) 0 [] from ⟨rfl, .inr ⟨w.heap.size, 0, #[], rfl, Nat.le_refl _, Blk.new _ _ _, Nat.le_refl _, Nat.zero_le _, rfl, rfl⟩⟩)
  have HR2 := Lib.hid (hr.alloc hB (.cells #[] 100))
  have H1 := Lib.hid h1
  clear h1 hr
  have hnil := fun w => Lib.run_eql_slice_nil (P := Tryz.prog) w 37 100 (some ad) n c 0 0 Tryz.underlying37
  go_enter Tryz.func108, Tryz.ntmps108
  go_wp2_with (at_builtin; refine wpList_appN _ rfl _ _ 37 rfl w.heap.size 100 i0 _ 5 48 Tryz.underlying37 hi hz0 hz1 hz2 rfl (by decide) _ _ _ rfl HO.out _ _ _ _ _ rfl HR2.out H1.out ?c1 ?c2 ?c3 ?_)
  case c1 => unfold maxLen; omega
  case c2 => omega
  case c3 => first | omega | simp
  intro v' w' hown hb
  try simp only [Nat.zero_add, List.nil_append] at hown
  obtain ⟨A9, c9, rfl⟩ := ownsRow_len hown
  have FIN := Lib.hid (show NewCf n xs w (.returned (.slice A9 n c9)) w' from ⟨A9, c9, rfl, hown, ((Below.refl _ _).alloc (Nat.le_refl _) _).trans hb⟩)
  clear hown hb
  go_wp2
  go_ret
  exact FIN.out
theorem clCf_any (A : Option Addr) (c n B : Nat) (xs : List Value) (hm : n ≤ 1000) (h1 : ∀ u ∈ xs, u.oneCell' = true) (w : World) (hr : Reads w B 5 A n xs) (hB : B ≤ w.heap.size) :
    Calls Tryz.prog 108 #[.slice A n c] w (NewCf n xs w) := by
  cases A with
  | none =>
    rcases Nat.eq_zero_or_pos n with h0 | h0
    · subst h0
      obtain rfl : xs = [] := List.eq_nil_of_length_eq_zero (by have := hr.1; omega)
      exact (clCf_nil c w).mono fun e w' ⟨k1, k2⟩ => ⟨none, 0, k1, World.ownsRow_nil _ _ _ _, k2⟩
    · obtain ⟨_, h, _⟩ := hr.2 h0
      cases h
  | some ad => exact clCf_some ad c n B xs hm h1 w hr hB
end Go.Proofs.YthimchhnhhchkaaGreatDoor

namespace Go.Proofs.YthimchhnhhchkaaGreatDoor
open Go.RowKit Go.Lib
set_option linter.unusedSimpArgs false
set_option linter.unusedVariables false

def TwAt (F : Nat → Nat) (W : World) (tb : Nat) (t : TSt) : Prop := ∃ Aa ca nv dv wv bs, TownIs F W tb Aa ca nv dv wv bs t
/-- behind a call of the program's town -/
def TwTo (w : World) (F : Nat → Nat) (W : World) (tb : Nat) (t' : TSt) (W' : World) : Prop := ∃ F', Col w W' F' ∧ Moved ProgC F W F' W' ∧ TwAt F' W' tb t'
def TwE (w : World) (F : Nat → Nat) (W : World) (tb : Nat) (t' : TSt) (er : Int) (e : Ending) (W' : World) : Prop := e = .returned (.int .i64 er) ∧ TwTo w F W tb t' W'
def TwN (w : World) (F : Nat → Nat) (W : World) (tb : Nat) (t' : TSt) (N : List TriD) (er : Int) (e : Ending) (W' : World) : Prop :=
  ∃ A c, e = .returned (.tuple #[.slice A N.length c, .int .i64 er]) ∧ W'.ownsRow W.heap.size 146 3 (.slice A N.length c) N.length (cells3 N) ∧ TwTo w F W tb t' W'
theorem joined_c (s : NSt) (id : ByteArray) (th : Int) : (s.joined id th).c = s.c := by
  unfold NSt.joined
  split <;> rfl
theorem heard_c (s : NSt) (x : ByteArray) : (s.heard x).c = s.c := by
  have h : (s.mid x).c = s.c := by
    unfold NSt.mid
    split <;> rfl
  unfold NSt.heard
  split
  · exact h
  · exact h
/-- the three ways of a number that names no living node -/
def DeadI (t : TSt) (i : Int) : Prop := i < 0 ∨ (t.L.length : Int) ≤ i ∨ ∃ k : Nat, i = (k : Int) ∧ ∃ hk : k < t.L.length, (t.L[k]'hk).2 = true
section
variable {w W W' : World} {F F' : Nat → Nat} {tb ca : Nat} {Aa : Option Addr} {nv dv wv : Value} {bs : List Nat} {t : TSt}
theorem TownIs.toC (h : TownIs F W tb Aa ca nv dv wv bs t) (hC : Col w W F) : TwTo w F W tb t W := ⟨F, hC, .refl hC, _, _, _, _, _, _, h⟩
/-- one node's block, and its mark -/
theorem TownIs.at_ (h : TownIs F W tb Aa ca nv dv wv bs t) {k : Nat} (hk : k < t.L.length) : ∃ gn cn gd cd, nv = .slice (some ⟨gn, 0, none⟩) t.L.length cn ∧ dv = .slice (some ⟨gd, 0, none⟩) t.L.length cd ∧ t.L.length ≤ cn ∧ cn ≤ maxLen ∧ t.L.length ≤ cd ∧ cd ≤ maxLen ∧ gn < W.heap.size ∧ gd < W.heap.size ∧ F gd = 4 ∧
    W.cell? ⟨gn, k, none⟩ = some (.pointer (some ⟨bs[k]'(by rw [h.len]; exact hk), 0, none⟩)) ∧ W.cell? ⟨gd, k, none⟩ = some (.bool (t.L[k]'hk).2) ∧ W.frozen? ⟨gd, k, none⟩ = false := by
  obtain ⟨gn, cn, rfl, -, hgn, hn1, hn2, hcn⟩ := ownsRow_at h.nds.1 (by omega)
  obtain ⟨gd, cd, rfl, -, hgd, hd1, hd2, hcd⟩ := ownsRow_at h.ded.1 (by omega)
  have hb : k < bs.length := by rw [h.len]; exact hk
  exact ⟨gn, cn, gd, cd, rfl, rfl, hn1, hn2, hd1, hd2, hgn, hgd, h.ded.2 gd rfl, hcn k _ (by simp [ptrs, hb]), hcd k _ (by simp [boolsV, hk]), h.ded.1.frozenAt k⟩
theorem TownIs.lens (h : TownIs F W tb Aa ca nv dv wv bs t) : ∃ An cn Ad cd, nv = .slice An t.L.length cn ∧ dv = .slice Ad t.L.length cd := by
  obtain ⟨An, cn, e1⟩ := ownsRow_len h.nds.1
  obtain ⟨Ad, cd, e2⟩ := ownsRow_len h.ded.1
  exact ⟨An, cn, Ad, cd, e1, e2⟩
set_option maxHeartbeats 400000 in
set_option maxRecDepth 100000 in
theorem tstop_no (h : TownIs F W tb Aa ca nv dv wv bs t) (i : Int) (hi : DeadI t i) :
    Calls Tryz.prog 82 #[.pointer (some ⟨tb, 0, none⟩), .int .i64 i] W fun e W' => e = .returned (.int .i64 4) ∧ W = W' := by
  have htb := h.blk.1.lt
  have b1 := h.blk.1.cell 1
  have b2 := h.blk.1.cell 2
  obtain ⟨An, cn, Ad, cd, rfl, rfl⟩ := h.lens
  simp at b1 b2
  rcases hi with hi | hi | ⟨k, rfl, hk, hd⟩
  · clear h
    go_enter Tryz.func82, Tryz.ntmps82
    go_wp2
    go_ret
    exact ⟨rfl, rfl⟩
  · have hi0 : 0 ≤ i := by omega
    clear h
    generalize t.L.length = n at *
    go_enter Tryz.func82, Tryz.ntmps82
    go_wp2
    go_ret
    exact ⟨rfl, rfl⟩
  · obtain ⟨gn, cn', gd, cd', e1, e2, hn1, hn2, hd1, hd2, hgn, hgd, -, c1, c2, -⟩ := h.at_ hk
    simp only [Value.slice.injEq] at e1 e2
    obtain ⟨rfl, -, rfl⟩ := e1
    obtain ⟨rfl, -, rfl⟩ := e2
    rw [hd] at c2
    unfold maxLen at hn2 hd2
    clear c1
    clear h hd
    generalize t.L.length = n at *
    go_enter Tryz.func82, Tryz.ntmps82
    go_wp2
    go_ret
    exact ⟨rfl, rfl⟩
theorem TownIs.stop {k gd cd : Nat} (h : TownIs F W tb Aa ca nv (.slice (some ⟨gd, 0, none⟩) t.L.length cd) wv bs t) (hC : Col w W F) (hk : k < t.L.length) :
    TwTo w F W tb ⟨t.L.set k ((t.L[k]'hk).1, true), t.way⟩ (W.setCell ⟨gd, k, none⟩ (.bool true)) := by
  have hfd : F gd = 4 := h.ded.2 gd rfl
  have hkp : Kept (fun k => F k = 4) W (W.setCell ⟨gd, k, none⟩ (.bool true)) := (Kept.refl _ _).setCell (a := ⟨gd, k, none⟩) (.inl hfd) _
  have hsz : (W.setCell ⟨gd, k, none⟩ (.bool true)).heap.size = W.heap.size := by simp [World.setCell]
  have m : Moved (fun x => x = 4) F W F (W.setCell ⟨gd, k, none⟩ (.bool true)) := ⟨hkp, fun _ _ => rfl, fun k hl h0 => by have := hC.hi k h0; omega⟩
  have e1 : (t.L.set k ((t.L[k]'hk).1, true)).map (fun p => p.1.c) = t.L.map (fun p => p.1.c) := by
    apply List.ext_getElem (by simp)
    intro j h1 h2
    simp only [List.getElem_map, List.getElem_set]
    split
    · next e => subst e; rfl
    · rfl
  have e2 : boolsV ((t.L.set k ((t.L[k]'hk).1, true)).map Prod.snd) = (boolsV (t.L.map Prod.snd)).set k (.bool true) := by
    unfold boolsV
    rw [List.map_set, List.map_set]
  refine ⟨F, ⟨hC.lo, fun k hk => by rw [hsz]; exact hC.hi k hk, hC.bel.trans (hkp.below (fun k e => hC.lo k (by rw [e]; decide)) hC.bel.size)⟩, m.mono (fun c hc => .inl (by omega)), Aa, ca, nv, .slice (some ⟨gd, 0, none⟩) t.L.length cd, wv, bs, ?_, ?_, ?_, ?_, m.row hC (by omega) (by omega) h.way, by simpa using h.len, fun j hj hj' => ?_⟩
  · simpa using m.blk hC (c' := 1) (by omega) (by omega) h.blk
  · have := m.read hC (c' := 2) (by omega) (by omega) h.all
    simpa [e1] using this
  · simpa using m.row hC (c' := 3) (by omega) (by omega) h.nds
  · rw [e2, List.length_set]
    exact ⟨(h.ded.1.stored k (.bool true)).1, fun k hk => h.ded.2 k hk⟩
  · have hj2 : j < t.L.length := by simpa using hj'
    have : NodeAt (fun x => F x = 10 + j) (W.setCell ⟨gd, k, none⟩ (.bool true)) (bs[j]'hj) (t.L[j]'hj2).1 := m.hold hC (c' := 10 + j) (by omega) (by omega) (h.node j hj hj2)
    by_cases e : j = k
    · subst e
      simpa using this
    · simpa [List.getElem_set, Ne.symm e] using this
set_option maxHeartbeats 400000 in
set_option maxRecDepth 100000 in
theorem tstop_ok (h : TownIs F W tb Aa ca nv dv wv bs t) (hC : Col w W F) (k : Nat) (hk : k < t.L.length) (hd : (t.L[k]'hk).2 = false) :
    Calls Tryz.prog 82 #[.pointer (some ⟨tb, 0, none⟩), .int .i64 (k : Int)] W fun e W' => e = .returned (.int .i64 0) ∧ TwTo w F W tb ⟨t.L.set k ((t.L[k]'hk).1, true), t.way⟩ W' := by
  have htb := h.blk.1.lt
  have b1 := h.blk.1.cell 1
  have b2 := h.blk.1.cell 2
  obtain ⟨gn, cn, gd, cd, rfl, rfl, hn1, hn2, hd1, hd2, hgn, hgd, -, c1, c2, c3⟩ := h.at_ hk
  simp at b1 b2
  have HT := Lib.hid (h.stop hC hk)
  rw [hd] at c2
  unfold maxLen at hn2 hd2
  have ik0 : (0 : Int) ≤ (k : Int) := by omega
  have ik1 : (k : Int) < (t.L.length : Int) := by omega
  clear c1
  clear h hd
  go_enter Tryz.func82, Tryz.ntmps82
  go_wp2
  go_ret
  exact ⟨rfl, HT.out⟩
theorem tstop_any (h : TownIs F W tb Aa ca nv dv wv bs t) (hC : Col w W F) (i : Int) :
    Calls Tryz.prog 82 #[.pointer (some ⟨tb, 0, none⟩), .int .i64 i] W (TwE w F W tb (t.stopped i) (t.stopE i)) := by
  unfold TSt.stopped TSt.stopE
  by_cases hl : t.lives i = true
  · rw [if_pos hl, if_pos hl]
    obtain ⟨k, rfl, hk, hd⟩ := lives_true hl
    rw [TSt.at_is hk]
    exact tstop_ok h hC k hk hd
  · rw [if_neg hl, if_neg hl]
    exact (tstop_no h i (lives_false (by simpa using hl))).mono fun e W' ⟨k1, k2⟩ => ⟨k1, k2 ▸ h.toC hC⟩
/-! ### a level -/
set_option maxHeartbeats 400000 in
set_option maxRecDepth 100000 in
theorem tlevel_no (h : TownIs F W tb Aa ca nv dv wv bs t) (i : Int) (hi : DeadI t i) (id : ByteArray) :
    Calls Tryz.prog 84 #[.pointer (some ⟨tb, 0, none⟩), .int .i64 i, .string id] W fun e W' => e = .returned (.tuple #[.int .i64 0, .int .i64 4]) ∧ W = W' := by
  have htb := h.blk.1.lt
  have b1 := h.blk.1.cell 1
  have b2 := h.blk.1.cell 2
  obtain ⟨An, cn, Ad, cd, rfl, rfl⟩ := h.lens
  simp at b1 b2
  rcases hi with hi | hi | ⟨k, rfl, hk, hd⟩
  · clear h
    go_enter Tryz.func84, Tryz.ntmps84
    go_wp2
    go_ret2
    exact ⟨rfl, rfl⟩
  · have hi0 : 0 ≤ i := by omega
    clear h
    generalize t.L.length = n at *
    go_enter Tryz.func84, Tryz.ntmps84
    go_wp2
    go_ret2
    exact ⟨rfl, rfl⟩
  · obtain ⟨gn, cn', gd, cd', e1, e2, hn1, hn2, hd1, hd2, hgn, hgd, -, c1, c2, -⟩ := h.at_ hk
    simp only [Value.slice.injEq] at e1 e2
    obtain ⟨rfl, -, rfl⟩ := e1
    obtain ⟨rfl, -, rfl⟩ := e2
    rw [hd] at c2
    unfold maxLen at hn2 hd2
    clear c1
    clear h hd
    generalize t.L.length = n at *
    go_enter Tryz.func84, Tryz.ntmps84
    go_wp2
    go_ret2
    exact ⟨rfl, rfl⟩
set_option maxHeartbeats 400000 in
set_option maxRecDepth 100000 in
theorem tlevel_ok (h : TownIs F W tb Aa ca nv dv wv bs t) (k : Nat) (hk : k < t.L.length) (hd : (t.L[k]'hk).2 = false) (hg : NGood (t.L[k]'hk).1) (id : ByteArray) :
    Calls Tryz.prog 84 #[.pointer (some ⟨tb, 0, none⟩), .int .i64 (k : Int), .string id] W (LvIs ((t.L[k]'hk).1.lv id) (lvEr (t.L[k]'hk).1.D id) W) := by
  have htb := h.blk.1.lt
  have b1 := h.blk.1.cell 1
  have b2 := h.blk.1.cell 2
  have hb : k < bs.length := by rw [h.len]; exact hk
  obtain ⟨_, _, _, _, _, hn⟩ := h.node k hb hk
  have HL := Lib.hid (nlv_any hn hg id)
  obtain ⟨gn, cn, gd, cd, rfl, rfl, hn1, hn2, hd1, hd2, hgn, hgd, -, c1, c2, c3⟩ := h.at_ hk
  simp at b1 b2
  rw [hd] at c2
  unfold maxLen at hn2 hd2
  have ik0 : (0 : Int) ≤ (k : Int) := by omega
  have ik1 : (k : Int) < (t.L.length : Int) := by omega
  generalize bs[k]'hb = b at *
  clear h hd hn
  go_enter Tryz.func84, Tryz.ntmps84
  go_wp2_with fail
  refine HL.out.mono ?_
  rintro e' w2 ⟨rfl, hb2⟩
  have B2 := Lib.hid hb2
  clear hb2
  go_wp2
  go_ret2
  exact ⟨rfl, B2.out⟩
/-! ### a subscription -/
set_option maxHeartbeats 400000 in
set_option maxRecDepth 100000 in
theorem tjoin_no (h : TownIs F W tb Aa ca nv dv wv bs t) (i : Int) (hi : DeadI t i) (id : ByteArray) (th : Int) :
    Calls Tryz.prog 86 #[.pointer (some ⟨tb, 0, none⟩), .int .i64 i, .string id, .int .i64 th] W fun e W' => e = .returned (.tuple #[.slice none 0 0, .int .i64 4]) ∧ W = W' := by
  have htb := h.blk.1.lt
  have b1 := h.blk.1.cell 1
  have b2 := h.blk.1.cell 2
  obtain ⟨An, cn, Ad, cd, rfl, rfl⟩ := h.lens
  simp at b1 b2
  rcases hi with hi | hi | ⟨k, rfl, hk, hd⟩
  · clear h
    go_enter Tryz.func86, Tryz.ntmps86
    go_wp2
    go_ret2
    exact ⟨rfl, rfl⟩
  · have hi0 : 0 ≤ i := by omega
    clear h
    generalize t.L.length = n at *
    go_enter Tryz.func86, Tryz.ntmps86
    go_wp2
    go_ret2
    exact ⟨rfl, rfl⟩
  · obtain ⟨gn, cn', gd, cd', e1, e2, hn1, hn2, hd1, hd2, hgn, hgd, -, c1, c2, -⟩ := h.at_ hk
    simp only [Value.slice.injEq] at e1 e2
    obtain ⟨rfl, -, rfl⟩ := e1
    obtain ⟨rfl, -, rfl⟩ := e2
    rw [hd] at c2
    unfold maxLen at hn2 hd2
    clear c1
    clear h hd
    generalize t.L.length = n at *
    go_enter Tryz.func86, Tryz.ntmps86
    go_wp2
    go_ret2
    exact ⟨rfl, rfl⟩
/-- a node's call that tells notes, as the town's -/
theorem TownIs.hrIs {k : Nat} {s1 : NSt} {N : List TriD} {er : Int} {e : Ending} (h : TownIs F W tb Aa ca nv dv wv bs t) (hC : Col w W F) (h5 : t.L.length ≤ 5) (hk : k < t.L.length) (hd : (t.L[k]'hk).2 = false) (hcfg : s1.c = (t.L[k]'hk).1.c)
    (hr : HrIs (fun x => F x = 10 + k) (bs[k]'(by rw [h.len]; exact hk)) s1 N er W e W') : TwN w F W tb (t.node k s1) N er e W' := by
  obtain ⟨A, c, rfl, ho, hn, hkp⟩ := hr
  exact ⟨A, c, rfl, ho, _, hC.paint (by omega) hkp, (Moved.paint hC hkp).mono (fun c hc => .inr (by omega)), _, _, _, _, _, _, h.turn hC hk hkp hn hcfg hd.symm⟩
set_option maxHeartbeats 400000 in
set_option maxRecDepth 100000 in
theorem tjoin_ok (h : TownIs F W tb Aa ca nv dv wv bs t) (hC : Col w W F) (h5 : t.L.length ≤ 5) (k : Nat) (hk : k < t.L.length) (hd : (t.L[k]'hk).2 = false) (hg : NGood (t.L[k]'hk).1) (id : ByteArray) (th : Int) :
    Calls Tryz.prog 86 #[.pointer (some ⟨tb, 0, none⟩), .int .i64 (k : Int), .string id, .int .i64 th] W (TwN w F W tb (t.node k ((t.L[k]'hk).1.joined id th)) ((t.L[k]'hk).1.joinN id th) ((t.L[k]'hk).1.joinE id th)) := by
  have htb := h.blk.1.lt
  have b1 := h.blk.1.cell 1
  have b2 := h.blk.1.cell 2
  have hb : k < bs.length := by rw [h.len]; exact hk
  have HH := Lib.hid (fun e W' hr => h.hrIs (W' := W') (e := e) (N := (t.L[k]'hk).1.joinN id th) (er := (t.L[k]'hk).1.joinE id th) hC h5 hk hd (joined_c (t.L[k]'hk).1 id th) hr)
  obtain ⟨_, _, _, _, _, hn⟩ := h.node k hb hk
  have HL := Lib.hid (join_any hn hg id th)
  obtain ⟨gn, cn, gd, cd, rfl, rfl, hn1, hn2, hd1, hd2, hgn, hgd, -, c1, c2, c3⟩ := h.at_ hk
  simp at b1 b2
  rw [hd] at c2
  unfold maxLen at hn2 hd2
  generalize hQ : TwN w F W tb (t.node k ((t.L[k]'hk).1.joined id th)) ((t.L[k]'hk).1.joinN id th) ((t.L[k]'hk).1.joinE id th) = Q at *
  have HQ := Lib.hid hQ
  clear hQ
  have ik0 : (0 : Int) ≤ (k : Int) := by omega
  have ik1 : (k : Int) < (t.L.length : Int) := by omega
  generalize bs[k]'hb = b at *
  clear h hd hn
  go_enter Tryz.func86, Tryz.ntmps86
  go_wp2_with fail
  refine HL.out.mono ?_
  intro e' w2 hr
  have H2 := Lib.hid (HH.out _ _ hr)
  obtain ⟨A2, c2', rfl, -⟩ := hr
  go_wp2
  exact H2.out
theorem tjoin_any (h : TownIs F W tb Aa ca nv dv wv bs t) (hC : Col w W F) (hg : TGood t) (i : Int) (id : ByteArray) (th : Int) :
    Calls Tryz.prog 86 #[.pointer (some ⟨tb, 0, none⟩), .int .i64 i, .string id, .int .i64 th] W (TwN w F W tb (t.joined i id th) (t.joinN i id th) (t.joinE i id th)) := by
  unfold TSt.joined TSt.joinN TSt.joinE
  by_cases hl : t.lives i = true
  · rw [if_pos hl, if_pos hl, if_pos hl]
    obtain ⟨k, rfl, hk, hd⟩ := lives_true hl
    rw [TSt.at_is hk]
    exact tjoin_ok h hC hg.five k hk hd (hg.good _ (List.getElem_mem hk)) id th
  · rw [if_neg hl, if_neg hl, if_neg hl]
    exact (tjoin_no h i (lives_false (by simpa using hl)) id th).mono fun e W' ⟨k1, k2⟩ => ⟨none, 0, k1, World.ownsRow_nil _ _ _ _, k2 ▸ h.toC hC⟩
end
end Go.Proofs.YthimchhnhhchkaaGreatDoor
