/- The desk in memory; what a call of the desk leaves. (with what it needs) -/
import Derived.Test.YthimchhnhhchkaaGreatDoorM41
import Derived.Test.YthimchhnhhchkaaGreatDoorM43
import Derived.Shelf.Strings.BuilderK
namespace Go.Proofs.YthimchhnhhchkaaGreatDoor
open Go.RowKit Go.Lib
set_option linter.unusedSimpArgs false
set_option linter.unusedVariables false

/-- a desk, plainly: its town, if there is one; nodes that are to be -/
structure DSt where
  T : Option TSt
  L : List CfgD
def TownV (F : Nat → Nat) (W : World) (tv : Value) : Option TSt → Prop
  | none => tv = .pointer none ∧ ∀ k, ¬ ProgC (F k)
  | some t => ∃ tb, tv = .pointer (some ⟨tb, 0, none⟩) ∧ TwAt F W tb t ∧ TGood t
/-- the desk's own colours -/
def DeskC (c : Nat) : Prop := ProgC c ∨ c = 31 ∨ c = 32
structure DskAt (F : Nat → Nat) (W : World) (db : Nat) (tv : Value) (A : Option Addr) (c : Nat) (s : DSt) : Prop where
  blk : BlkC F 31 W db 39 #[tv, .slice A s.L.length c]
  nds : ReadC F 32 W 5 s.L.length A (cellsCf s.L)
  five : s.L.length ≤ 5
  ids : ∀ x ∈ s.L, x.1.size ≤ maxLen
  town : TownV F W tv s.T
/-- behind a call of the desk -/
def DTo (w : World) (F : Nat → Nat) (W : World) (db : Nat) (s : DSt) (W' : World) : Prop := ∃ F' tv A c, Col w W' F' ∧ Moved DeskC F W F' W' ∧ DskAt F' W' db tv A c s
/-- an answer: a word, or a fault -/
def AnsE (e : Int) (s : ByteArray) (x : Ending) : Prop := (e = 0 ∧ x = .returned (.string s)) ∨ (e ≠ 0 ∧ x = fltE e)
section
variable {w W W' W1 W2 : World} {F F' : Nat → Nat} {P : Nat → Prop} {tb db c : Nat} {A : Option Addr} {tv : Value} {t : TSt} {s : DSt}
theorem TwAt.otherM (h : TwAt F W tb t) (hC : Col w W F) (m : Moved P F W F' W') (hP : ∀ c, P c → ¬ ProgC c) (h5 : t.L.length ≤ 5) : TwAt F' W' tb t := by
  obtain ⟨_, _, _, _, _, _, h⟩ := h
  exact ⟨_, _, _, _, _, _, h.other hC m hP h5⟩
theorem TwAt.belowC (h : TwAt F W tb t) (hC : Col w W F) (h5 : t.L.length ≤ 5) (hb : Below W.heap.size W W1) : TwAt F W1 tb t :=
  h.otherM hC (.below (P := fun _ => False) hC hb) (fun _ h => h.elim) h5
theorem TwTo.from_ (h : TwTo w F W1 tb t W2) (hC : Col w W F) (hb : Below W.heap.size W W1) : TwTo w F W tb t W2 := by
  obtain ⟨F', h1, h2, h3⟩ := h
  exact ⟨F', h1, Moved.trans (.below hC hb) h2, h3⟩
theorem TwTo.more (h : TwTo w F W tb t W1) (hg : TGood t) (hb : Below W1.heap.size W1 W2) : TwTo w F W tb t W2 := by
  obtain ⟨F', h1, h2, h3⟩ := h
  exact ⟨F', h1.below hb, h2.trans (.below h1 hb), h3.belowC h1 hg.five hb⟩
theorem TwTo.kept (h : TwTo w F W tb t W1) : Kept (fun k => ProgC (F k)) W W1 := by
  obtain ⟨F', h1, h2, h3⟩ := h
  exact h2.kept
theorem prog_zero : ¬ ProgC 0 := by unfold ProgC; omega
theorem prog_31 : ¬ ProgC 31 := by unfold ProgC; omega
theorem prog_32 : ¬ ProgC 32 := by unfold ProgC; omega
theorem Moved.none (m : Moved P F W F' W') (hC : Col w W F) (hP : ∀ c, P c → ¬ ProgC c) (h : ∀ k, ¬ ProgC (F k)) : ∀ k, ¬ ProgC (F' k) := fun k e => by
  by_cases hl : W.heap.size ≤ k
  · exact hP _ (m.new k hl (fun e0 => by rw [e0] at e; exact prog_zero e)) e
  · rw [m.old k (by omega)] at e
    exact h k e
theorem DskAt.other (h : DskAt F W db tv A c s) (hC : Col w W F) (m : Moved P F W F' W') (hP : ∀ c, P c → ¬ DeskC c) : DskAt F' W' db tv A c s := by
  have hn : ∀ c, DeskC c → ¬ P c := fun c h1 h2 => hP c h2 h1
  refine ⟨m.blk hC (by omega) (hn 31 (.inr (.inl rfl))) h.blk, m.read hC (by omega) (hn 32 (.inr (.inr rfl))) h.nds, h.five, h.ids, ?_⟩
  have ht := h.town
  unfold TownV at ht ⊢
  split
  · next e =>
    rw [e] at ht
    exact ⟨ht.1, m.none hC (fun c h4 h5 => hP c h4 (.inl h5)) ht.2⟩
  · next t e =>
    rw [e] at ht
    obtain ⟨tb, h1, h2, h3⟩ := ht
    exact ⟨tb, h1, h2.otherM hC m (fun c h4 h5 => hP c h4 (.inl h5)) h3.five, h3⟩
theorem DskAt.below (h : DskAt F W db tv A c s) (hC : Col w W F) (hb : Below W.heap.size W W1) : DskAt F W1 db tv A c s :=
  h.other hC (.below (P := fun _ => False) hC hb) (fun _ h => h.elim)
/-- behind a call of its town -/
theorem DskAt.twto {t' : TSt} {L : List CfgD} (h : DskAt F W db (.pointer (some ⟨tb, 0, none⟩)) A c ⟨some t, L⟩) (hC : Col w W F) (k : TwTo w F W tb t' W') (hg : TGood t') : DTo w F W db ⟨some t', L⟩ W' := by
  obtain ⟨F', h1, h2, h3⟩ := k
  exact ⟨F', _, A, c, h1, h2.mono fun c h => .inl h, h2.blk hC (by omega) prog_31 h.blk, h2.read hC (by omega) prog_32 h.nds, h.five, h.ids, tb, rfl, h3, hg⟩
theorem DTo.from_ (h : DTo w F W1 db s W2) (hC : Col w W F) (hb : Below W.heap.size W W1) : DTo w F W db s W2 := by
  obtain ⟨F', tv, A, c, h1, h2, h3⟩ := h
  exact ⟨F', tv, A, c, h1, Moved.trans (.below hC hb) h2, h3⟩
theorem DTo.more (h : DTo w F W db s W1) (hb : Below W1.heap.size W1 W2) : DTo w F W db s W2 := by
  obtain ⟨F', tv, A, c, h1, h2, h3⟩ := h
  exact ⟨F', tv, A, c, h1.below hb, h2.trans (.below h1 hb), h3.below h1 hb⟩
theorem DskAt.dto (h : DskAt F W db tv A c s) (hC : Col w W F) : DTo w F W db s W := ⟨F, tv, A, c, hC, .refl hC, h⟩
end
/-- a pointer in a block of the call's own: a captured variable -/
structure BoxA (F : Nat → Nat) (W : World) (b : Nat) (T : TypeId) (cs : Array Value) : Prop where
  blk : Blk W b T cs
  zero : F b = 0
section
variable {w W W' : World} {F F' : Nat → Nat} {b : Nat} {T : TypeId} {cs : Array Value} {i : Nat}
theorem BoxA.cellK (h : BoxA F W b T cs) (k : Kept (fun k => ProgC (F k)) W W') (i : Nat) : W'.cell? ⟨b, i, none⟩ = cs[i]? :=
  (k.blk h.blk (fun e => prog_zero (by have e' : ProgC (F b) := e; rw [h.zero] at e'; exact e'))).cell i
theorem BlkC.cellK (h : BlkC F 31 W b T cs) (k : Kept (fun k => ProgC (F k)) W W') (i : Nat) : W'.cell? ⟨b, i, none⟩ = cs[i]? :=
  (k.blk h.1 (fun e => prog_31 (by have e' : ProgC (F b) := e; rw [h.2] at e'; exact e'))).cell i
end
/-- how notes are told -/
def SayN (N : List TriD) (er : Int) (out : ByteArray) : Prop := ∀ (W : World) (A : Option Addr) (c : Nat), Reads W W.heap.size 3 A N.length (cells3 N) →
  Calls Tryz.prog 75 #[.slice A N.length c, .int .i64 er] W fun x W' => AnsE er out x ∧ Below W.heap.size W W'
theorem sayN_ok {N : List TriD} (hn : N.length ≤ 100) (hs : ∀ p ∈ N, NoteSm p) : SayN N 0 (notesT N) := fun W A c hr =>
  (notes_ok A c N.length N rfl hn hs W hr).mono fun x W' ⟨h1, h2⟩ => ⟨.inl ⟨rfl, h1⟩, h2⟩
theorem sayN_no {N : List TriD} {er : Int} (he : er ≠ 0) (out : ByteArray) : SayN N er out := fun W A c hr =>
  (notes_no A c N.length er he W).mono fun x W' ⟨h1, h2⟩ => ⟨.inr ⟨he, h1⟩, h2 ▸ Below.refl _ _⟩
theorem SayN.ok {N : List TriD} {er : Int} {out : ByteArray} (h : SayN N er out) (he : er = 0) (W : World) (A : Option Addr) (c : Nat) (hr : Reads W W.heap.size 3 A N.length (cells3 N)) :
    Calls Tryz.prog 75 #[.slice A N.length c, .int .i64 0] W fun x W' => x = .returned (.string out) ∧ Below W.heap.size W W' := by
  subst he
  exact (h W A c hr).mono fun x W' ⟨h1, h2⟩ => ⟨h1.elim (fun a => a.2) (fun a => absurd rfl a.1), h2⟩
theorem SayN.no {N : List TriD} {er : Int} {out : ByteArray} (h : SayN N er out) (he : er ≠ 0) (W : World) (A : Option Addr) (c : Nat) (hr : Reads W W.heap.size 3 A N.length (cells3 N)) :
    Calls Tryz.prog 75 #[.slice A N.length c, .int .i64 er] W fun x W' => x = fltE er ∧ Below W.heap.size W W' :=
  (h W A c hr).mono fun x W' ⟨h1, h2⟩ => ⟨h1.elim (fun a => absurd a.1 he) (fun a => a.2), h2⟩
end Go.Proofs.YthimchhnhhchkaaGreatDoor

namespace Go.Proofs.YthimchhnhhchkaaGreatDoor
open Go.RowKit Go.Lib
set_option linter.unusedSimpArgs false
set_option linter.unusedVariables false

/-- a builder of colour 33 -/
structure BldAt (F : Nat → Nat) (W : World) (b : Nat) (p v : Value) (bs : List Value) : Prop where
  blk : BlkC F 33 W b 43 #[p, v]
  row : W.ownsRow 0 5 1 v bs.length bs
  col : ∀ k, v.ownBlock = some k → F k = 33
  ne : v.ownBlock ≠ some b
  p : p = .pointer none ∨ p = .pointer (some ⟨b, 0, none⟩)
section
variable {w W W' W1 : World} {F F' : Nat → Nat} {P : Nat → Prop} {b : Nat} {p v : Value} {bs : List Value}
theorem BldAt.other (h : BldAt F W b p v bs) (hC : Col w W F) (m : Moved P F W F' W') (hn : ¬ P 33) : BldAt F' W' b p v bs :=
  ⟨m.blk hC (by omega) hn h.blk, m.kept.own h.row (fun k hk hx => hn (by have e : P (F k) := hx; rwa [h.col k hk] at e)), fun k hk => (m.col hC (by omega) hn).2 (h.col k hk), h.ne, h.p⟩
theorem BldAt.below (h : BldAt F W b p v bs) (hC : Col w W F) (hb : Below W.heap.size W W1) : BldAt F W1 b p v bs := h.other hC (.below (P := fun _ => False) hC hb) id
theorem BldAt.is (h : BldAt F W b p v bs) : Lib.IsBuilderF 43 5 0 b bs W := by
  have hb : Lib.BuilderAtF 43 5 0 b p bs W := ⟨Nat.zero_le _, v, h.blk.1, World.ownsRowF_of h.row, h.ne⟩
  rcases h.p with rfl | rfl
  · exact .inl hb
  · exact .inr hb
/-- behind what is written -/
def BldTo (w : World) (F : Nat → Nat) (W : World) (b : Nat) (bs : List Value) (W' : World) : Prop := ∃ F' v, Col w W' F' ∧ Moved (fun c => c = 33) F W F' W' ∧ BldAt F' W' b (.pointer (some ⟨b, 0, none⟩)) v bs
theorem bldInfo : ∃ j, Tryz.prog.info? 43 = some j ∧ j.size = 2 := by
  have h : (Tryz.prog.info? 43).map (·.size) = some 2 := by kernel_rfl
  obtain ⟨j, hj, h2⟩ := Option.map_eq_some_iff.1 h
  exact ⟨j, hj, h2⟩
set_option maxHeartbeats 1000000 in
set_option maxRecDepth 100000 in
theorem cc_used (h0 : W.cell? ⟨b, 0, none⟩ = some (.pointer (some ⟨b, 0, none⟩))) :
    Calls Tryz.prog 16 #[.pointer (some ⟨b, 0, none⟩)] W fun e W' => e = .returned (.tuple #[]) ∧ W' = W := by
  obtain ⟨j, hj, hjs⟩ := bldInfo
  go_enter Tryz.func16, Tryz.ntmps16
  go_wp2
  rw [Lib.run_neq_ptr_same W _ Tryz.underlying40 hj]
  go_wp2
  go_end0
  exact ⟨rfl, rfl⟩
set_option maxHeartbeats 1000000 in
set_option maxRecDepth 100000 in
theorem cc_fresh (h0 : W.cell? ⟨b, 0, none⟩ = some (.pointer none)) (hsh : W.shape? b = some (43, 2)) (hfz : W.frozen? ⟨b, 0, none⟩ = false) :
    Calls Tryz.prog 16 #[.pointer (some ⟨b, 0, none⟩)] W fun e W' => e = .returned (.tuple #[]) ∧ W' = W.setCell ⟨b, 0, none⟩ (.pointer (some ⟨b, 0, none⟩)) := by
  obtain ⟨j, hj, hjs⟩ := bldInfo
  have hl : liesAt Tryz.prog Tryz.prog.depth 43 (2 / Tryz.prog.cellsOf 43) 0 43 1 = true := by kernel_rfl
  go_enter Tryz.func16, Tryz.ntmps16
  go_wp2
  rw [Lib.run_to_unsafe W ⟨b, 0, none⟩ Tryz.underlying40 Tryz.underlying70 hj (by rw [hjs]; decide) hsh (Nat.zero_lt_succ 1)]
  simp only [Result.andThen]
  rw [Oper.upon_value]
  go_wp2
  rw [run_callFunc_extern Tryz.func29 (by kernel_rfl) (by kernel_rfl) (by kernel_rfl) (e := Extern.AbiNoEscape.same) (by kernel_rfl)]
  rw [Lib.run_noEscape]
  simp only [Result.andThen]
  rw [Oper.upon_value]
  go_wp2
  rw [Lib.run_from_unsafe W ⟨b, 0, none⟩ Tryz.underlying70 Tryz.underlying40 hj hsh hl]
  simp only [Result.andThen]
  rw [Oper.upon_value]
  go_wp2
  go_end0
  exact ⟨rfl, rfl⟩
/-- behind copyCheck: its own address in it, all else as it was -/
def CcTo (F : Nat → Nat) (W : World) (b : Nat) (v : Value) (bs : List Value) (W' : World) : Prop := Kept (fun k => F k = 33) W W' ∧ W'.heap.size = W.heap.size ∧ BldAt F W' b (.pointer (some ⟨b, 0, none⟩)) v bs
theorem cc_any (h : BldAt F W b p v bs) (hC : Col w W F) :
    Calls Tryz.prog 16 #[.pointer (some ⟨b, 0, none⟩)] W fun e W' => e = .returned (.tuple #[]) ∧ CcTo F W b v bs W' := by
  have c0 := h.blk.1.cell 0
  rcases h.p with rfl | rfl
  · have hsh : W.shape? b = some (43, 2) := by
      have := h.blk.1
      unfold Blk at this
      simp [World.shape?, this]
    refine (cc_fresh c0 hsh (h.blk.1.frozen 0)).mono ?_
    rintro e W' ⟨rfl, rfl⟩
    have K : Kept (fun k => F k = 33) W (W.setCell ⟨b, 0, none⟩ (.pointer (some ⟨b, 0, none⟩))) := (Kept.refl _ W).setCell (a := ⟨b, 0, none⟩) (.inl h.blk.2) _
    refine ⟨rfl, K, by simp [World.setCell], ⟨by have := h.blk.1.set_ 0 (.pointer (some ⟨b, 0, none⟩)); simpa using this, h.blk.2⟩, ?_, h.col, h.ne, .inr rfl⟩
    exact ((Kept.refl (fun k => k = b) W).setCell (a := ⟨b, 0, none⟩) (.inl rfl) _).own h.row (fun k hk e => h.ne (by rw [hk, e]))
  · refine (cc_used c0).mono ?_
    rintro e W' ⟨rfl, rfl⟩
    exact ⟨rfl, Kept.refl _ _, rfl, h⟩
/-- a row grown, and stored -/
theorem BldAt.grown {v' : Value} {bs' : List Value} {W2 W0 : World} (h : BldAt F W1 b (.pointer (some ⟨b, 0, none⟩)) v bs) (hC : Col w W F) (hk : Kept (fun k => F k = 33) W W1) (hs : W1.heap.size = W.heap.size) (hb : Below W1.heap.size W1 W0) (hg : W0.grownBy W2 v.ownBlock) (hr : W2.ownsRow 0 5 1 v' bs'.length bs')
    (hv : ∀ k, v'.ownBlock = some k → v.ownBlock = some k ∨ W0.heap.size ≤ k) (hn : v'.ownBlock ≠ some b) : BldTo w F W b bs' (W2.setCell ⟨b, 1, none⟩ v') := by
  have K1 : Kept (fun k => F k = 33) W W2 := (hk.step hb).grown hg (fun k hk => .inl (h.col k hk))
  have K2 : Kept (fun k => F k = 33) W (W2.setCell ⟨b, 1, none⟩ v') := K1.setCell (a := ⟨b, 1, none⟩) (.inl h.blk.2) _
  have hlt := h.blk.1.lt
  have hb0 : Blk W0 b 43 #[.pointer (some ⟨b, 0, none⟩), v] := h.blk.1.below hb hlt
  have hb2 : Blk W2 b 43 #[.pointer (some ⟨b, 0, none⟩), v] := (hg.block b hb0.lt (fun e => h.ne e.symm)).trans hb0
  have hs0 := hb.size
  refine ⟨_, v', hC.paint (by omega) K2, .paint hC K2, ⟨by have := hb2.set_ 1 v'; simpa using this, paint_keep h.blk.2⟩, ?_, fun k hk => ?_, hn, .inr rfl⟩
  · exact ((Kept.refl (fun k => k = b) W2).setCell (a := ⟨b, 1, none⟩) (.inl rfl) _).own hr (fun k hk e => hn (by rw [hk, e]))
  · rcases hv k hk with h1 | h1
    · exact paint_keep (h.col k h1)
    · have hlt2 : k < W2.heap.size := by
        exact (hr.lt k hk).2
      exact paint_new (by omega) (by simpa [World.setCell] using hlt2)
/-- a text appended to a row of bytes, and where the row then lies -/
theorem run_app_str {P : Program} (W : World) (t u ty e : TypeId) (i : TypeInfo) (ht : P.underlying t = some (.slice e)) (hu : P.underlying u = some .string) (hi : P.info? e = some i) (hz : i.zero = some (.int .u8 0)) (hsize : i.size = 1) (hby : i.bytes = 1)
    (v : Value) (n : Nat) (xs : List Value) (hown : W.ownsRow 0 e 1 v n xs) (s : ByteArray) (h63 : n + s.size ≤ maxLen) (hbytes : n + s.size ≤ 140737488355328) :
    ∃ v' W', (Builtin.append_ #[t, u] ty #[v, .string s]).run P W = .ok v' W' ∧ W'.ownsRow 0 e 1 v' (n + s.size) (xs ++ Lib.strCells s) ∧ W.grownBy W' v.ownBlock ∧ (∀ k, v'.ownBlock = some k → v.ownBlock = some k ∨ W.heap.size ≤ k) := by
  obtain ⟨v1, W1, r1, r2, r3, r4⟩ := Lib.run_append_own_string (P := P) W 0 t u ty e i ht hu hi hz hsize hby v n xs hown s h63 hbytes (Nat.zero_le _)
  refine ⟨v1, W1, r1, r2, r3, fun k hk => ?_⟩
  rcases hown.2 with ⟨rfl, rfl⟩ | ⟨g, cap, cur, rfl, hbg, hg, hnc, hcm, hcs, htake⟩
  · obtain ⟨v2, W2, q1, q2, q3, q4⟩ := Lib.run_append_own_string (P := P) W W.heap.size t u ty e i ht hu hi hz hsize hby (.slice none 0 0) 0 xs ⟨hown.1, .inl ⟨rfl, rfl⟩⟩ s h63 hbytes (Nat.le_refl _)
    rw [r1] at q1
    injection q1 with e1 e2
    subst e1
    exact .inr (q2.lt k hk).1
  · by_cases hroom : n + s.size ≤ cap
    · have q1 := Lib.run_append_room_string (P := P) W t u ty e i ht hu hi hsize g n cap cur hg s hroom (by omega)
      rw [r1] at q1
      injection q1 with e1 e2
      subst e1
      exact .inl hk
    · have hxl : xs.length = n := by have := hown.1; omega
      have holds : ∀ j u, xs[j]? = some u → W.cell? ((⟨g, 0, none⟩ : Addr).add j) = some u := hown.cells (g := g) rfl
      have q1 := Lib.run_append_grow_string (P := P) W t u ty e i (.int .u8 0) ht hu hi hz ⟨g, 0, none⟩ n cap xs (by rw [hsize]; omega) holds s (by omega) (by unfold maxLen at h63; omega) (by rw [hby]; exact growslice_fits (by omega) (by omega))
      rw [r1] at q1
      injection q1 with e1 e2
      subst e1
      have : k = W.heap.size := by simpa [Value.ownBlock] using hk.symm
      exact .inr (by omega)
theorem wpList_app_str {P : Program} (W : World) {ops : Array Oper} {rest : List Oper} {o : Oper} {a : Act} {Q : Exit → Act → World → Prop} (hgd : o.guard = none) (sl x : Operand) (t u : TypeId)
    (ho : o.op = .call { callee := .builtin .append, args := #[sl, x], argTypes := #[t, u] }) (e : TypeId) (i : TypeInfo) (ht : P.underlying t = some (.slice e)) (hu : P.underlying u = some .string) (hi : P.info? e = some i) (hz : i.zero = some (.int .u8 0)) (hsize : i.size = 1) (hby : i.bytes = 1)
    (v : Value) (n : Nat) (xs : List Value) (hs : a.eval sl = v) (hown : W.ownsRow 0 e 1 v n xs) (s : ByteArray) (hx : a.eval x = .string s) (h63 : n + s.size ≤ maxLen) (hbytes : n + s.size ≤ 140737488355328)
    (h : ∀ v' W', W'.ownsRow 0 e 1 v' (n + s.size) (xs ++ Lib.strCells s) → W.grownBy W' v.ownBlock → (∀ k, v'.ownBlock = some k → v.ownBlock = some k ∨ W.heap.size ≤ k) → wpList P ops Q rest (a.put o.dst v') W') : wpList P ops Q (o :: rest) a W := by
  refine wpList_plain hgd fun K hK => ?_
  obtain ⟨v', W', hr, h2, h3, h4⟩ := run_app_str (P := P) W t u o.type e i ht hu hi hz hsize hby v n xs hown s h63 hbytes
  unfold Oper.wp execOp
  simp only [ho, resolve, invoke, builtin, Sem.run_bind, Sem.run_pure, Result.andThen_ok, List.map_toArray, List.map_cons, List.map_nil, hs, hx, hr]
  exact hK _ _ (h v' W' h2 h3 h4)
theorem u8_info : (Tryz.prog.info? 5).map (fun i => (i.zero, i.size, i.bytes)) = some (some (.int .u8 0), 1, 1) := by kernel_rfl
set_option maxHeartbeats 1000000 in
set_option maxRecDepth 100000 in
theorem bws_any (h : BldAt F W b p v bs) (hC : Col w W F) (s : ByteArray) (hlen : bs.length + s.size ≤ 1000000000) :
    Calls Tryz.prog 10 #[.pointer (some ⟨b, 0, none⟩), .string s] W fun e W' => e = .returned (.tuple #[.int .i64 (s.size : Int), .nilIface]) ∧ BldTo w F W b (bs ++ Lib.strCells s) W' := by
  obtain ⟨i0, hi, hz0, hz1, hz2⟩ := info_parts u8_info
  have HC := Lib.hid hC
  have HCC := Lib.hid (cc_any h hC)
  clear h hC
  go_enter Tryz.func10, Tryz.ntmps10
  go_wp2_with fail
  refine HCC.out.mono ?_
  rintro e' w1 ⟨rfl, hk, hsz, hb⟩
  have HB := Lib.hid hb
  have HK := Lib.hid hk
  have HZ := Lib.hid hsz
  have hlt := hb.blk.1.lt
  have c1 := hb.blk.1.cell 1
  simp at c1
  clear hk hsz hb
  go_wp2_with (at_builtin; refine wpList_app_str _ rfl _ _ 41 9 rfl 5 i0 Tryz.underlying41 Tryz.underlying9 hi hz0 hz1 hz2 _ _ _ rfl HB.out.row s rfl ?c1 ?c2 ?_)
  case c1 => unfold maxLen; omega
  case c2 => omega
  intro v' w2 hown hg hv
  have hn : v'.ownBlock ≠ some b := fun e => (hv b e).elim (fun e1 => HB.out.ne e1) (fun e1 => by omega)
  have FIN := Lib.hid (HB.out.grown (bs' := bs ++ Lib.strCells s) HC.out HK.out HZ.out (Below.refl _ _) hg (by rw [List.length_append, Lib.strCells_length]; exact hown) hv hn)
  have hb2 : Blk w2 b 43 #[.pointer (some ⟨b, 0, none⟩), v] := (hg.block b hlt (fun e => HB.out.ne e.symm)).trans HB.out.blk.1
  have hlt2 := hb2.lt
  have d1 := hb2.cell 1
  have f1 := hb2.frozen 1
  simp at d1
  obtain ⟨A9, c9, rfl⟩ := ownsRow_len hown
  clear hown hg hv hn hb2
  go_wp2
  go_ret2
  exact ⟨rfl, FIN.out⟩
set_option maxHeartbeats 1000000 in
set_option maxRecDepth 100000 in
theorem bwb_any (h : BldAt F W b p v bs) (hC : Col w W F) (z : Int) (hlen : bs.length + 1 ≤ 1000000000) :
    Calls Tryz.prog 12 #[.pointer (some ⟨b, 0, none⟩), .int .u8 z] W fun e W' => e = .returned .nilIface ∧ BldTo w F W b (bs ++ [.int .u8 z]) W' := by
  obtain ⟨i0, hi, hz0, hz1, hz2⟩ := info_parts u8_info
  have HC := Lib.hid hC
  have HCC := Lib.hid (cc_any h hC)
  clear h hC
  go_enter Tryz.func12, Tryz.ntmps12
  go_wp2_with fail
  refine HCC.out.mono ?_
  rintro e' w1 ⟨rfl, hk, hsz, hb⟩
  have HB := Lib.hid hb
  have HK := Lib.hid hk
  have HZ := Lib.hid hsz
  have hlt := hb.blk.1.lt
  have c1 := hb.blk.1.cell 1
  simp at c1
  clear hk hsz hb
  have HR1 := Lib.hid (show Reads (w1.alloc (.cells #[.int .u8 z] 5)) (w1.heap.size + 1) 1 (some ⟨w1.heap.size, 0, none⟩) 1 [.int .u8 z] from ⟨rfl, fun _ => ⟨_, rfl, by simp, fun j u hj => by
    rcases j with _ | j
    · cases hj; exact (Blk.new w1 5 #[.int .u8 z]).cell 0
    · simp at hj⟩⟩)
  go_wp2_with (at_builtin; refine wpList_append_any _ rfl _ _ 41 rfl 0 5 i0 (.int .u8 0) 1 1 Tryz.underlying41 hi hz0 hz1 hz2 rfl (by decide) _ _ _ rfl (HB.out.row.alloc _) _ _ 1 _ _ rfl HR1.out ?c0 ?c1 ?c2 (Nat.zero_le _) ?_)
  case c0 => intro u hu; rcases List.mem_singleton.1 hu with rfl; rfl
  case c1 => unfold maxLen; omega
  case c2 => omega
  intro v' w2 hown hg hv
  have hv' : ∀ k, v'.ownBlock = some k → v.ownBlock = some k ∨ (w1.alloc (.cells #[.int .u8 z] 5)).heap.size ≤ k := fun k hk => hv.elim (fun e => .inl (e ▸ hk)) (fun e => .inr (by have e9 := Option.some.inj (e.symm.trans hk); simp; omega))
  have hn : v'.ownBlock ≠ some b := fun e => (hv' b e).elim (fun e1 => HB.out.ne e1) (fun e1 => by simp at e1; omega)
  have FIN := Lib.hid (HB.out.grown (bs' := bs ++ [.int .u8 z]) HC.out HK.out HZ.out ((Below.refl _ _).alloc (Nat.le_refl _) _) hg (by rw [List.length_append]; exact hown) hv' hn)
  have hb2 : Blk w2 b 43 #[.pointer (some ⟨b, 0, none⟩), v] := (hg.block b (by simp; omega) (fun e => HB.out.ne e.symm)).trans (HB.out.blk.1.alloc _)
  have hlt2 := hb2.lt
  have d1 := hb2.cell 1
  have f1 := hb2.frozen 1
  simp at d1
  obtain ⟨A9, c9, rfl⟩ := ownsRow_len hown
  clear hown hg hv hn hb2 hv'
  go_wp2
  go_ret
  exact ⟨rfl, FIN.out⟩
end
end Go.Proofs.YthimchhnhhchkaaGreatDoor
