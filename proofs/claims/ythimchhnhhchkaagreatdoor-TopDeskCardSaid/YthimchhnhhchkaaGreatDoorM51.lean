/- The desk: one line, answered. (with what it needs) -/
import Derived.Test.YthimchhnhhchkaaGreatDoorM49
import Derived.Test.YthimchhnhhchkaaGreatDoorM45
import Derived.Test.YthimchhnhhchkaaGreatDoorM46
import Derived.Test.YthimchhnhhchkaaGreatDoorM44
import Derived.Test.YthimchhnhhchkaaGreatDoorM50
namespace Go.Proofs.YthimchhnhhchkaaGreatDoor
open Go.RowKit Go.Lib
set_option linter.unusedSimpArgs false
set_option linter.unusedVariables false

/-- a word that asks a town -/
structure TownW (s : ByteArray) : Prop where
  sz : s.size ≤ maxLen
  h1 : Lit.string s.data.toList ≠ .string [115, 117, 109]
  h2 : Lit.string s.data.toList ≠ .string [108, 101, 115, 115]
  h3 : Lit.string s.data.toList ≠ .string [116, 105, 109, 101, 115]
  h4 : Lit.string s.data.toList ≠ .string [100, 105, 118]
  h5 : Lit.string s.data.toList ≠ .string [104, 97, 108, 118, 101]
  e0 : (s.toList == [114, 111, 111, 116]) = false
  e1 : (s.toList == [115, 117, 109, 115]) = false
  e2 : (s.toList == [109, 101, 97, 110]) = false
  e3 : (s.toList == [115, 112, 114, 101, 97, 100]) = false
  e4 : (s.toList == [114, 97, 110, 107]) = false
  e5 : (s.toList == [99, 97, 110, 116, 101, 108, 108, 105]) = false
  e6 : (s.toList == [102, 97, 100, 101]) = false
  e7 : (s.toList == [108, 101, 118, 101, 108]) = false
  e8 : (s.toList == [119, 104, 101, 110]) = false
theorem desk_zero : ¬ DeskC 0 := by unfold DeskC ProgC; omega
/-- behind a store into a block of the call's own -/
theorem DTo.keptNew {w W W3 W4 W5 : World} {F : Nat → Nat} {db b : Nat} {s : DSt} (h : DTo w F W3 db s W4) (hC : Col w W F) (hb3 : Below W.heap.size W W3) (hb : W.heap.size ≤ b) (hl : b < W3.heap.size) (hk : Kept (fun x => x = b) W4 W5) : DTo w F W db s W5 := by
  obtain ⟨F', tv, A, c, c1, m, d⟩ := h
  have f0 : F b = 0 := by
    by_cases h0 : F b = 0
    · exact h0
    · exact absurd (hC.hi b h0) (by omega)
  have f1 : F' b = 0 := (m.old b hl).trans f0
  have m5 : Moved (fun c => c = 0) F' W4 F' W5 := ⟨hk.mono (fun k e => .inl (by rw [e]; exact f1)), fun _ _ => rfl, fun k hl h0 => absurd (c1.hi k h0) (by omega)⟩
  have hw := hC.bel.size
  refine ⟨F', tv, A, c, ⟨c1.lo, fun k h0 => Nat.lt_of_lt_of_le (c1.hi k h0) hk.size, c1.bel.trans (hk.below (B := w.heap.size) (fun k e => by rw [e]; omega) c1.bel.size)⟩, ⟨((Kept.of_below hb3).then m.kept (fun k e => .inl e)).then hk (fun k e => .inr (by rw [e]; exact hb)), fun k h1 => m.old k (Nat.lt_of_lt_of_le h1 hb3.size), fun k h1 h0 => ?_⟩, d.other c1 m5 (fun c e => by rw [e]; exact desk_zero)⟩
  by_cases h3 : W3.heap.size ≤ k
  · exact m.new k h3 h0
  · rw [m.old k (by omega)] at h0
    exact absurd (hC.hi k h0) (by omega)
theorem DTo.blk0 {w W W3 W4 : World} {F : Nat → Nat} {db b : Nat} {s : DSt} {T : TypeId} {cs : Array Value} (h : DTo w F W3 db s W4) (hC : Col w W F) (hb : W.heap.size ≤ b) (hk : Blk W3 b T cs) : Blk W4 b T cs := by
  obtain ⟨F', tv, A, c, c1, m, d⟩ := h
  refine m.kept.blk hk (fun e => ?_)
  have f0 : F b = 0 := by
    by_cases h0 : F b = 0
    · exact h0
    · exact absurd (hC.hi b h0) (by omega)
  rw [f0] at e
  exact desk_zero e
def ansT (er : Int) (out : ByteArray) : ByteArray := if er = 0 then out else errT er.toNat
set_option maxHeartbeats 1000000 in
set_option maxRecDepth 100000 in
theorem answer_of {w W : World} {F : Nat → Nat} {db c cn : Nat} {A An : Option Addr} {tv : Value} {s s' : DSt} {er : Int} {out s0 : ByteArray} {r : List ByteArray} (hC : Col w W F) (h : DskAt F W db tv An cn s) (hr : Reads W W.heap.size 1 A (s0 :: r).length (cellsTx (s0 :: r))) (hc : (s0 :: r).length ≤ c ∧ c ≤ maxLen)
    (hs : TownW s0) (ha : AskTo w F W db s' er out s0 (s0 :: r) A c) (he : 0 ≤ er ∧ er < 100) :
    Calls Tryz.prog 11 #[.pointer (some ⟨db, 0, none⟩), .slice A (s0 :: r).length c] W fun e W' => e = .returned (.string (ansT er out)) ∧ DTo w F W db s' W' := by
  have hmf : ∀ (fn : Fn) (first cap : Array Value) (w : World), (Instr.makeFunc fn first cap).run Tryz.prog w = .ok (.func fn first cap) w := fun _ _ _ _ => rfl
  obtain ⟨g, off, rfl, hg, hcs⟩ := hr.addr (by simp)
  have c0 := hcs 0 (.string s0) (by simp [cellsTx])
  have HC := Lib.hid hC
  have HD := Lib.hid h
  have HR := Lib.hid hr
  have HA := Lib.hid ha
  have HS := Lib.hid hs
  have hlen : (0 : Int) < ((s0 :: r).length : Int) := by simp only [List.length_cons]; omega
  have HCP := Lib.hid hc
  have B0 := Lib.hid (((Below.refl W.heap.size W).alloc (Nat.le_refl _) (.cells #[.string ⟨#[]⟩] 9)).alloc (by simp) (.cells #[.slice (some ⟨g, off, none⟩) (s0 :: r).length c, .int .i64 1] 59))
  have K0 := Lib.hid (show Blk ((W.alloc (.cells #[.string ⟨#[]⟩] 9)).alloc (.cells #[.slice (some ⟨g, off, none⟩) (s0 :: r).length c, .int .i64 1] 59)) W.heap.size 9 #[.string ⟨#[]⟩] from (Blk.new _ _ _).alloc _)
  have V0 := Lib.hid (show Wds ((W.alloc (.cells #[.string ⟨#[]⟩] 9)).alloc (.cells #[.slice (some ⟨g, off, none⟩) (s0 :: r).length c, .int .i64 1] 59)) (W.heap.size + 1) (some ⟨g, off, none⟩) (s0 :: r).length c 1 from by have := Blk.new (W.alloc (.cells #[.string ⟨#[]⟩] 9)) 59 #[.slice (some ⟨g, off, none⟩) (s0 :: r).length c, .int .i64 1]; unfold Wds; simpa using this)
  simp only [Nat.add_zero] at c0
  clear hC h hr ha hcs hs hc
  generalize hn : (s0 :: r).length = n at *
  have HN := Lib.hid hn
  clear hn
  go_enter_defers Tryz.func11, Tryz.ntmps11
  go_wp2_with fail
  refine (wides_no s0 HS.out.sz HS.out.h1 HS.out.h2 HS.out.h3 HS.out.h4 HS.out.h5 _).mono ?_
  rintro e' w1 ⟨rfl, hb1⟩
  have B1 := Lib.hid (Below.thru5 B0.out hb1)
  have K1 := Lib.hid (K0.out.below hb1 K0.out.lt)
  have V1 := Lib.hid (show Wds w1 _ _ _ _ _ from V0.out.below hb1 V0.out.lt)
  have e0 := HS.out.e0
  have e1 := HS.out.e1
  have e2 := HS.out.e2
  have e3 := HS.out.e3
  have e4 := HS.out.e4
  have e5 := HS.out.e5
  have e6 := HS.out.e6
  have e7 := HS.out.e7
  have e8 := HS.out.e8
  have WA := Lib.hid (show WAt w1 (W.heap.size + 1) (some ⟨g, off, none⟩) c (s0 :: r) 1 from ⟨by rw [HN.out]; exact V1.out, by rw [HN.out]; exact (HR.out.below B1.out (Nat.le_refl _)).more B1.out.size, fun a ha => by injection ha with ha; subst ha; simp; omega, by rw [HN.out]; exact HCP.out⟩)
  clear hb1 c0
  go_wp2_with fail
  refine (HA.out w1 (W.heap.size + 1) B1.out (Nat.le_succ _) WA.out).mono ?_
  rintro e' w2 ⟨fn, caps, rfl, hk2, hw2, hf2⟩
  have K2 := Lib.hid (hk2.blk K1.out (fun e => by have e' : W.heap.size = W.heap.size + 1 := e; omega))
  have B2 := Lib.hid (B1.out.trans (hk2.below (B := W.heap.size) (fun k e => by rw [e]; exact Nat.le_succ _) B1.out.size))
  have WA2 := Lib.hid hw2
  have HF2 := Lib.hid hf2
  clear hk2 hw2 hf2 e0 e1 e2 e3 e4 e5 e6 e7 e8
  go_wp2_with fail
  refine (endG WA2.out).mono ?_
  rintro e' w3 ⟨rfl, hb3⟩
  have K3 := Lib.hid (K2.out.below hb3 K2.out.lt)
  have B3 := Lib.hid (Below.thru5 B2.out hb3)
  obtain ⟨hen, hcl⟩ := HF2.out w3 hb3
  have HCL := Lib.hid hcl
  clear hb3 hcl
  go_wp2_with fail
  refine HCL.out.mono ?_
  rintro e' w4 ⟨(⟨hz, rfl⟩ | ⟨hz, rfl⟩), hto⟩
  · have K4 := Lib.hid (hto.blk0 HC.out (Nat.le_refl _) K3.out)
    have FIN := Lib.hid (hto.keptNew HC.out B3.out (Nat.le_refl _) K3.out.lt ((Kept.refl (fun x => x = W.heap.size) w4).setCell (a := ⟨W.heap.size, 0, none⟩) (.inl rfl) (.string out)))
    have EZ := Lib.hid (show ansT er out = out by unfold ansT; rw [if_pos hz])
    have k0 := K4.out.cell 0
    have z0 := K4.out.frozen 0
    have l0 := K4.out.lt
    simp at k0
    clear hto hz
    go_wp2
    refine leaves_cons (f := 17) (args := #[.pointer (some ⟨W.heap.size, 0, none⟩)]) (by simp) (by simp [go_sem]) ?_
    refine (catch_idle ⟨W.heap.size, 0, none⟩ _).mono ?_
    rintro e u' w'' ⟨rfl, rfl, rfl⟩
    simp [Leaves, settle, results, Tryz.results11, go_sem, k0, z0, l0, EZ.out]
    exact FIN.out
  · have K4 := Lib.hid (hto.blk0 HC.out (Nat.le_refl _) K3.out)
    have EZ := Lib.hid (show ansT er out = errT er.toNat by unfold ansT; rw [if_neg hz])
    obtain ⟨k, rfl⟩ : ∃ k : Nat, er = (k : Int) := ⟨er.toNat, by omega⟩
    have hto' := Lib.hid hto
    clear hto hz
    simp only [fltE]
    go_wp2
    refine leaves_cons (f := 17) (args := #[.pointer (some ⟨W.heap.size, 0, none⟩)]) (by simp) (by simp [go_sem]) ?_
    refine (catch_panicking W.heap.size ⟨#[]⟩ k (by omega) w4 K4.out).mono ?_
    rintro e u' w'' ⟨rfl, rfl, hk5, hb5⟩
    have k0 := hb5.cell 0
    simp at k0
    have FIN := Lib.hid (hto'.out.keptNew HC.out B3.out (Nat.le_refl _) K3.out.lt hk5)
    simp [Leaves, settle, results, Tryz.results11, go_sem, k0, EZ.out]
    exact FIN.out
end Go.Proofs.YthimchhnhhchkaaGreatDoor

namespace Go.Proofs.YthimchhnhhchkaaGreatDoor
open Go.RowKit Go.Lib
set_option linter.unusedSimpArgs false
set_option linter.unusedVariables false

/-- a line's words -/
def pieces (s : ByteArray) : List ByteArray := Lib.splitB ⟨#[32]⟩ 0 (Lib.countB s ⟨#[32]⟩) s
/-- a word that is not empty -/
def fullW (x : ByteArray) : Bool := !(x.toList == [])
def wordsOf (s : ByteArray) : List ByteArray := (pieces s).filter fullW
/-- a line that is answered -/
def LineOk (s : DSt) (l : List ByteArray) (o : ByteArray) (s' : DSt) : Prop :=
  ∀ (w W : World) (F : Nat → Nat) (db c cn : Nat) (A An : Option Addr) (tv : Value), Col w W F → DskAt F W db tv An cn s → Reads W W.heap.size 1 A l.length (cellsTx l) → l.length ≤ c ∧ c ≤ maxLen →
    Calls Tryz.prog 11 #[.pointer (some ⟨db, 0, none⟩), .slice A l.length c] W fun e W' => e = .returned (.string o) ∧ DTo w F W db s' W'
/-- what is said of the lines, one behind the other -/
inductive Plays : DSt → List ByteArray → List UInt8 → Prop
  | done (s : DSt) : Plays s [] []
  | skip {s : DSt} {x : ByteArray} {r : List ByteArray} {o : List UInt8} (h : wordsOf x = [] ∨ ∃ l, wordsOf x = ⟨#[35]⟩ :: l) (k : Plays s r o) : Plays s (x :: r) o
  | say {s s' : DSt} {x a : ByteArray} {l r : List ByteArray} {o1 : ByteArray} {o : List UInt8} (h : wordsOf x = a :: l) (ha : (a.toList == [35]) = false) (h1 : LineOk s (a :: l) o1 s') (k : Plays s' r o) : Plays s (x :: r) (o1.data.toList ++ 10 :: o)
/-- among the lines -/
def RunRel (w : World) (db bb : Nat) (L : List ByteArray) (O : List UInt8) (j : Nat) (wr : World) : Prop :=
  ∃ F s o1 o2 tv An cn p v, O = o1 ++ o2 ∧ Plays s (L.drop j) o2 ∧ Col w wr F ∧ DskAt F wr db tv An cn s ∧ BldAt F wr bb p v (Lib.byteCells o1)
theorem split_nl (s : ByteArray) (m : Int) (w : World) (hs : s.size < 4294967281) (hm : w.cell? ⟨0, 0, none⟩ = some (.int .i64 m)) (c : UInt8) :
    Calls Tryz.prog 9 #[.string s, .string ⟨#[c]⟩] w fun e w' => e = .returned (.slice (some ⟨w.heap.size, 0, none⟩) (Lib.splitB ⟨#[c]⟩ 0 (Lib.countB s ⟨#[c]⟩) s).length (Lib.splitB ⟨#[c]⟩ 0 (Lib.countB s ⟨#[c]⟩) s).length) ∧ w' = w.alloc (.cells ((Lib.splitB ⟨#[c]⟩ 0 (Lib.countB s ⟨#[c]⟩) s).map Value.string).toArray 9) := by
  have h := Tryz.strings_Split s ⟨#[c]⟩ m w hs hm (Nat.le_refl 1)
  rw [Lib.splitB_all ⟨#[c]⟩ (Nat.le_refl 1) 0 _ s rfl]
  exact h
theorem reads_pieces (w : World) (t : TypeId) (l : List ByteArray) : Reads (w.alloc (.cells (l.map Value.string).toArray t)) (w.heap.size + 1) 1 (some ⟨w.heap.size, 0, none⟩) l.length (cellsTx l) := by
  refine ⟨by simp [cellsTx], fun _ => ⟨_, rfl, by simp, fun j u hj => ?_⟩⟩
  obtain ⟨hl, rfl⟩ := List.getElem?_eq_some_iff.1 hj
  simp only [cellsTx, List.length_map] at hl
  have h := (Blk.new w t (l.map Value.string).toArray).cell j
  have e : (⟨w.heap.size, 0, none⟩ : Addr).add j = ⟨w.heap.size, j, none⟩ := by rcases j with _ | j <;> simp [Addr.add]
  rw [e, h]
  simp [cellsTx, hl]
theorem RunRel.start (w : World) (L : List ByteArray) (O : List UInt8) (hp : Plays ⟨none, []⟩ L O) :
    RunRel w w.heap.size (w.heap.size + 1) L O 0 ((w.alloc (.cells #[.pointer none, .slice none 0 0] 39)).alloc (.cells #[.pointer none, .slice none 0 0] 43)) := by
  obtain ⟨F, hF⟩ : ∃ F : Nat → Nat, F = fun k => if k = w.heap.size then 31 else if k = w.heap.size + 1 then 33 else 0 := ⟨_, rfl⟩
  have f1 : F w.heap.size = 31 := by rw [hF]; simp
  have f2 : F (w.heap.size + 1) = 33 := by rw [hF]; simp
  have f3 : ∀ k, F k ≠ 0 → k = w.heap.size ∨ k = w.heap.size + 1 := fun k h => by
    rw [hF] at h
    simp only at h
    split at h
    · next e => exact .inl e
    · split at h
      · next e => exact .inr e
      · exact absurd rfl h
  have b1 : Blk ((w.alloc (.cells #[.pointer none, .slice none 0 0] 39)).alloc (.cells #[.pointer none, .slice none 0 0] 43)) w.heap.size 39 #[.pointer none, .slice none 0 0] := (Blk.new _ _ _).alloc _
  have b2 : Blk ((w.alloc (.cells #[.pointer none, .slice none 0 0] 39)).alloc (.cells #[.pointer none, .slice none 0 0] 43)) (w.heap.size + 1) 43 #[.pointer none, .slice none 0 0] := by
    have := Blk.new (w.alloc (.cells #[.pointer none, .slice none 0 0] 39)) 43 #[.pointer none, .slice none 0 0]
    simpa using this
  refine ⟨F, ⟨none, []⟩, [], O, .pointer none, none, 0, .pointer none, .slice none 0 0, rfl, hp, ⟨fun k h => ?_, fun k h => ?_, ((Below.refl _ _).alloc (Nat.le_refl _) _).alloc (by simp) _⟩, ⟨⟨b1, f1⟩, ⟨Reads.none_, fun h => absurd h (Nat.lt_irrefl 0)⟩, Nat.zero_le _, by simp, rfl, fun k e => ?_⟩, ⟨⟨b2, f2⟩, World.ownsRow_nil _ _ _ _, (fun k hk => by cases hk), (fun e => by cases e), .inl rfl⟩⟩
  · rcases f3 k h with e | e <;> omega
  · rcases f3 k h with e | e <;> (simp; omega)
  · by_cases h0 : F k = 0
    · rw [h0] at e; exact prog_zero e
    · rcases f3 k h0 with h | h
      · rw [h, f1] at e; exact prog_31 e
      · rw [h, f2] at e
        unfold ProgC at e
        omega
theorem pieces_len (x : ByteArray) : (pieces x).length ≤ x.size + 1 := by
  have h1 := Lib.splitB_length_le ⟨#[32]⟩ 0 (Lib.countB x ⟨#[32]⟩) x
  have h2 := Lib.countB_le ⟨#[32]⟩ (Nat.le_refl 1) x.size x (Nat.le_refl _)
  unfold pieces
  omega
/-- the filter, a step on -/
theorem filter_take (ps : List ByteArray) (k : Nat) (h : k < ps.length) (b : Bool) (hb : ((ps[k]'h).toList == []) = b) : (ps.take (k + 1)).filter fullW = (ps.take k).filter fullW ++ (if b then [] else [ps[k]'h]) := by
  rw [List.take_succ_eq_append_getElem h, List.filter_append]
  congr 1
  have e : fullW (ps[k]'h) = !b := by unfold fullW; rw [hb]
  cases b <;> simp [List.filter, e]
theorem reads_one1 (w : World) (t : TypeId) (a : ByteArray) : Reads (w.alloc (.cells #[.string a] t)) (w.heap.size + 1) 1 (some ⟨w.heap.size, 0, none⟩) 1 (cellsTx [a]) := reads_pieces w t [a]
theorem one_tx (l : List ByteArray) : ∀ u ∈ cellsTx l, u.oneCell' = true := by
  intro u hu
  simp only [cellsTx, List.mem_map] at hu
  obtain ⟨s, _, rfl⟩ := hu
  rfl
theorem own_raise {w : World} {B n size : Nat} {e : TypeId} {v : Value} {xs : List Value} (h : w.ownsRow 0 e size v n xs) (hB : ∀ k, v.ownBlock = some k → B ≤ k) : w.ownsRow B e size v n xs := by
  refine ⟨h.1, ?_⟩
  rcases h.2 with hn | ⟨g, cap, cur, rfl, hb, rest⟩
  · exact .inl hn
  · exact .inr ⟨g, cap, cur, rfl, hB g rfl, rest⟩
theorem BldAt.isB {w W : World} {F : Nat → Nat} {b : Nat} {p v : Value} {bs : List Value} (h : BldAt F W b p v bs) (hC : Col w W F) : Lib.IsBuilderF 43 5 w.heap.size b bs W := by
  have hb : Lib.BuilderAtF 43 5 w.heap.size b p bs W := ⟨hC.lo b (by rw [h.blk.2]; omega), v, h.blk.1, World.ownsRowF_of (own_raise h.row (fun k hk => hC.lo k (by rw [h.col k hk]; omega))), h.ne⟩
  rcases h.p with rfl | rfl
  · exact .inl hb
  · exact .inr hb
theorem desk_33 : ¬ DeskC 33 := by unfold DeskC ProgC; omega
theorem RunRel.next {w W W' : World} {F F' : Nat → Nat} {db bb j : Nat} {L : List ByteArray} {O o1 o2 : List UInt8} {s : DSt} {tv p v : Value} {An : Option Addr} {cn : Nat} (ho : O = o1 ++ o2) (hp : Plays s (L.drop (j + 1)) o2) (hC : Col w W' F') (hD : DskAt F' W' db tv An cn s) (hB : BldAt F' W' bb p v (Lib.byteCells o1)) : RunRel w db bb L O (j + 1) W' :=
  ⟨F', s, o1, o2, tv, An, cn, p, v, ho, hp, hC, hD, hB⟩
theorem byteCells_len (l : List UInt8) : (Lib.byteCells l).length = l.length := by simp [Lib.byteCells]
theorem byteCells_app (l m : List UInt8) : Lib.byteCells (l ++ m) = Lib.byteCells l ++ Lib.byteCells m := by simp [Lib.byteCells]
theorem LineOk.at_ {w W : World} {F : Nat → Nat} {db c cn : Nat} {A An : Option Addr} {tv : Value} {s s' : DSt} {l : List ByteArray} {o : ByteArray} (h : LineOk s l o s') (hC : Col w W F) (hD : DskAt F W db tv An cn s) {B : Nat} {e : TypeId} (ho : W.ownsRow B e 1 (.slice A l.length c) l.length (cellsTx l)) :
    Calls Tryz.prog 11 #[.pointer (some ⟨db, 0, none⟩), .slice A l.length c] W fun e W' => e = .returned (.string o) ∧ DTo w F W db s' W' := h w W F db c cn A An tv hC hD (Reads.of_own ho) (ownsRow_cap ho)
set_option maxHeartbeats 4000000 in
set_option maxRecDepth 100000 in
theorem run_nl (sc : ByteArray) (L : List ByteArray) (O : List UInt8) (m : Int) (w : World) (hs : sc.size ≤ 65536) (hl : Lib.splitB ⟨#[10]⟩ 0 (Lib.countB sc ⟨#[10]⟩) sc = L ++ [ByteArray.empty]) (hL : L.length ≤ 200) (hO : O.length ≤ 100000000) (hx : ∀ x ∈ L, x.size ≤ 65536) (hp : Plays ⟨none, []⟩ L O) (hm : w.cell? ⟨0, 0, none⟩ = some (.int .i64 m)) :
    Calls Tryz.prog 7 #[.string sc] w fun e w' => e = .returned (.string ⟨O.toArray⟩) ∧ Below w.heap.size w w' := by
  have HP := Lib.hid hp
  have HSP := Lib.hid (split_nl sc m w (by omega) hm 10)
  have HCE := Lib.hid (show ∀ (j : Nat) (h : j < L.length), (w.alloc (.cells ((L ++ [ByteArray.empty]).map Value.string).toArray 9)).cell? ⟨w.heap.size, j, none⟩ = some (.string (L[j]'h)) from fun j h => ((Blk.new w 9 ((L ++ [ByteArray.empty]).map Value.string).toArray).cell j).trans (by simp [h, List.getElem?_append_left]))
  rw [hl] at HSP
  have ln : ((L ++ [ByteArray.empty]).length : Nat) = L.length + 1 := by simp
  rw [ln] at HSP
  have HLX := Lib.hid hx
  have l0 := hm
  have hw0 : 0 < w.heap.size := World.block_lt_of_cell? w ⟨0, 0, none⟩ hm
  have HM := Lib.hid hm
  have lc : (w.alloc (.cells ((L ++ [ByteArray.empty]).map Value.string).toArray 9)).cell? ⟨w.heap.size, L.length, none⟩ = some (.string ByteArray.empty) := ((Blk.new w 9 ((L ++ [ByteArray.empty]).map Value.string).toArray).cell L.length).trans (by simp)
  have hsc : (sc.size : Int) ≤ 65536 := by omega
  have hL' : (L.length : Int) ≤ 200 := by omega
  obtain ⟨ws, hws⟩ : ∃ ws, ws = w.alloc (.cells ((L ++ [ByteArray.empty]).map Value.string).toArray 9) := ⟨_, rfl⟩
  rw [← hws] at HSP HCE lc
  have hsz : w.heap.size < ws.heap.size := by rw [hws]; simp
  have BS := Lib.hid (show Below w.heap.size w ws from by rw [hws]; exact (Below.refl _ _).alloc (Nat.le_refl _) _)
  clear hws hl hp hx l0 hm
  go_enter Tryz.func7, Tryz.ntmps7
  go_wp2_with fail
  refine HSP.out.mono ?_
  rintro e' w1 ⟨rfl, rfl⟩
  have R0 := Lib.hid (RunRel.start w1 L O HP.out)
  go_wp2_with fail
  go_loopw [38] (fun iv wr => ∃ j : Nat, j ≤ L.length ∧ iv = .int .i64 (j : Int) ∧ RunRel w1 w1.heap.size (w1.heap.size + 1) L O j wr) (fun iv _ => L.length - (RowKit.intOf iv).toNat)
  case atStart => exact ⟨0, Nat.zero_le _, rfl, R0.out⟩
  case round =>
    obtain ⟨j, hj, rfl, hrel⟩ := hrel
    obtain ⟨wo, rfl⟩ : ∃ wo, wo = wr := ⟨_, rfl⟩
    obtain ⟨F, s, o1, o2, tv, An, cn, p, v, ho, hpl, hC, hD, hB⟩ := hrel
    have HO1 := Lib.hid ho
    have HPL := Lib.hid hpl
    have HC := Lib.hid hC
    have HD := Lib.hid hD
    have HBL := Lib.hid hB
    have BO := Lib.hid hC.bel
    have hso : w1.heap.size ≤ wo.heap.size := hC.bel.size
    have ldb := hD.blk.1.lt
    have lbb := hB.blk.1.lt
    clear R0 ho hpl hC hD hB
    by_cases hlt : j < L.length
    · have cj := (BO.out.cell (p := ⟨w.heap.size, j, none⟩) hsz).trans (HCE.out j hlt)
      have lw : w.heap.size < wo.heap.size := by omega
      have HXS := Lib.hid (HLX.out _ (List.getElem_mem hlt))
      have HDR := Lib.hid (List.drop_eq_getElem_cons hlt)
      generalize L[j]'hlt = x at *
      have HM2 := Lib.hid ((BO.out.cell (p := ⟨0, 0, none⟩) (Nat.lt_of_le_of_lt (Nat.zero_le _) hsz)).trans ((BS.out.cell (p := ⟨0, 0, none⟩) hw0).trans HM.out))
      have HS2 := Lib.hid (split_nl x m wo (by have := HXS.out; omega) HM2.out 32)
      have hnp := pieces_len x
      have hxs := HXS.out
      have HWO := Lib.hid (show wordsOf x = (pieces x).filter fullW from rfl)
      have HCP := Lib.hid (show ∀ (k : Nat) (h : k < (pieces x).length), (wo.alloc (.cells ((pieces x).map Value.string).toArray 9)).cell? ⟨wo.heap.size, k, none⟩ = some (.string ((pieces x)[k]'h)) from fun k h => ((Blk.new wo 9 ((pieces x).map Value.string).toArray).cell k).trans (by simp [h]))
      change Hid (Calls _ _ _ _ fun e w' => e = .returned (.slice (some ⟨wo.heap.size, 0, none⟩) (pieces x).length (pieces x).length) ∧ w' = wo.alloc (.cells ((pieces x).map Value.string).toArray 9)) at HS2
      obtain ⟨wi, hwi⟩ : ∃ wi, wi = wo.alloc (.cells ((pieces x).map Value.string).toArray 9) := ⟨_, rfl⟩
      rw [← hwi] at HS2 HCP
      have hzi : wo.heap.size < wi.heap.size := by rw [hwi]; simp
      have BI := Lib.hid (show Below wo.heap.size wo wi from by rw [hwi]; exact (Below.refl _ _).alloc (Nat.le_refl _) _)
      clear hwi
      generalize pieces x = ps at *
      have hnp' : (ps.length : Int) ≤ 65537 := by omega
      go_wp2_with fail
      refine HS2.out.mono ?_
      rintro e' w2 ⟨rfl, rfl⟩
      go_wp2_with fail
      obtain ⟨i0, hi, hz0, hz1, hz2⟩ := info_parts str_info
      go_loopw [9, 45] (fun av iv wr => ∃ (k : Nat) (M : List ByteArray), k ≤ ps.length ∧ iv = .int .i64 (k : Int) ∧ Hid (M = (ps.take k).filter fullW) ∧ wr.ownsRow w2.heap.size 9 1 av M.length (cellsTx M) ∧ Below w2.heap.size w2 wr) (fun _ iv _ => ps.length - (RowKit.intOf iv).toNat)
      case atStart => exact ⟨0, [], Nat.zero_le _, rfl, Lib.hid rfl, World.ownsRow_nil _ _ _ _, Below.refl _ _⟩
      case round =>
        obtain ⟨k, M, hk, rfl, HMM, hown, hbw⟩ := hrel
        obtain ⟨w3, rfl⟩ : ∃ w3, w3 = wr := ⟨_, rfl⟩
        obtain ⟨A3, c3, rfl⟩ := ownsRow_len hown
        have HOW := Lib.hid hown
        have HBW := Lib.hid hbw
        have hz3 : w2.heap.size ≤ w3.heap.size := hbw.size
        have hM := List.length_filter_le fullW (ps.take k)
        rw [← HMM.out, List.length_take] at hM
        clear hown hbw
        by_cases hk2 : k < ps.length
        · have ck := (HBW.out.cell (p := ⟨wo.heap.size, k, none⟩) hzi).trans (HCP.out k hk2)
          have HFT := Lib.hid (filter_take ps k hk2)
          generalize ps[k]'hk2 = a at *
          cases hb : (a.toList == []) with
          | true =>
            have HF2 := Lib.hid (show M = (ps.take (k + 1)).filter fullW by rw [HFT.out true hb, ← HMM.out]; simp)
            clear HFT
            go_wp2
            exact ⟨⟨k + 1, M, by omega, by simp, HF2, HOW.out, HBW.out⟩, by simp [RowKit.intOf]; omega⟩
          | false =>
            have HF2 := Lib.hid (show M ++ [a] = (ps.take (k + 1)).filter fullW by rw [HFT.out false hb, ← HMM.out]; simp)
            have HRO := Lib.hid (reads_one1 w3 9 a)
            have H1 := Lib.hid (one_tx [a])
            clear HFT
            go_wp2_with (at_builtin; refine wpList_appN _ rfl _ _ 33 rfl w2.heap.size 9 i0 _ 1 16 Tryz.underlying33 hi hz0 hz1 hz2 rfl (by decide) _ _ _ rfl (HOW.out.alloc _) _ _ 1 _ _ rfl HRO.out H1.out ?c1 ?c2 ?c3 ?_)
            case c1 => unfold maxLen; omega
            case c2 => omega
            case c3 => first | omega | (simp; omega)
            intro v9 w9 hown9 hb9
            have FIN := Lib.hid (show w9.ownsRow w2.heap.size 9 1 v9 (M ++ [a]).length (cellsTx (M ++ [a])) by rw [List.length_append, List.length_singleton, cellsTx_app]; exact hown9)
            have FB := Lib.hid ((HBW.out.alloc hz3 _).trans hb9)
            clear hown9 hb9
            go_wp2
            exact ⟨⟨k + 1, M ++ [a], by omega, by simp, HF2, FIN.out, FB.out⟩, by simp [RowKit.intOf]; omega⟩
        · obtain rfl : k = ps.length := by omega
          have HF2 := Lib.hid (show wordsOf x = M by rw [HWO.out, HMM.out, List.take_length])
          have HB3 := Lib.hid (show Below wo.heap.size wo w3 from Below.thru5 BI.out HBW.out)
          have ldb3 : w1.heap.size < w3.heap.size := by omega
          have lbb3 : w1.heap.size + 1 < w3.heap.size := by omega
          clear hM cj HCP hzi hz3 lw
          have hpl := HPL.out
          rw [HDR.out] at hpl
          cases hpl with
          | skip h kk =>
            have FIN := Lib.hid (RunRel.next (W := wo) (F := F) HO1.out kk (HC.out.below HB3.out) (HD.out.below HC.out HB3.out) (HBL.out.below HC.out HB3.out))
            rcases h with h | ⟨l, h⟩
            · obtain rfl : M = [] := HF2.out.symm.trans h
              clear h kk
              go_wp2
              exact ⟨⟨j + 1, by omega, by simp, FIN.out⟩, by simp [RowKit.intOf]; omega⟩
            · obtain rfl : M = ⟨#[35]⟩ :: l := HF2.out.symm.trans h
              obtain ⟨g9, c9, hv9, hb9, hg9, hn9, hm9, hcs9⟩ := ownsRow_at HOW.out (by simp)
              have q0 := hcs9 0 (.string ⟨#[35]⟩) rfl
              injection hv9 with hA9 hn9' hc9
              subst hA9 hc9
              have hl9 : (0 : Int) < (((⟨#[35]⟩ : ByteArray) :: l).length : Int) := by simp only [List.length_cons]; omega
              have hl8 : ((((⟨#[35]⟩ : ByteArray) :: l).length : Int) == 0) = false := by simp only [List.length_cons, beq_eq_false_iff_ne]; omega
              generalize ((⟨#[35]⟩ : ByteArray) :: l).length = n9 at *
              clear h kk hcs9
              go_wp2
              exact ⟨⟨j + 1, by omega, by simp, FIN.out⟩, by simp [RowKit.intOf]; omega⟩
          | @say _ s' _ a l _ o1' o h ha h1 kk =>
            obtain rfl : M = a :: l := HF2.out.symm.trans h
            obtain ⟨g9, c9, hv9, hb9, hg9, hn9, hm9, hcs9⟩ := ownsRow_at HOW.out (by simp)
            have q0 := hcs9 0 (.string a) rfl
            have HAN := Lib.hid (h1.at_ (HC.out.below HB3.out) (HD.out.below HC.out HB3.out) HOW.out)
            injection hv9 with hA9 hn9' hc9
            subst hA9 hc9
            have hl9 : (0 : Int) < ((a :: l).length : Int) := by simp only [List.length_cons]; omega
            have hl8 : (((a :: l).length : Int) == 0) = false := by simp only [List.length_cons, beq_eq_false_iff_ne]; omega
            have HKK := Lib.hid kk
            have hlen : o1.length + (o1'.data.toList.length + (o.length + 1)) = O.length := by rw [HO1.out]; simp
            have hsz1 : o1'.data.toList.length = o1'.size := by rw [Array.length_toList]; rfl
            have HO2 := Lib.hid (show O = (o1 ++ o1'.data.toList ++ [10]) ++ o by rw [HO1.out]; simp)
            generalize (a :: l).length = n9 at *
            clear h kk hcs9 h1
            go_wp2_with fail
            refine HAN.out.mono ?_
            rintro e' w4 ⟨rfl, F4, tv4, A4, c4, hC4, m4, d4⟩
            have C4 := Lib.hid hC4
            have D4 := Lib.hid d4
            have B4 := Lib.hid ((HBL.out.below HC.out HB3.out).other (HC.out.below HB3.out) m4 desk_33)
            clear hC4 m4 d4 q0
            go_wp2_with fail
            refine (bws_any B4.out C4.out o1' (by rw [byteCells_len]; omega)).mono ?_
            rintro e' w5 ⟨rfl, F5, v5, hC5, m5, b5⟩
            have C5 := Lib.hid hC5
            have D5 := Lib.hid (D4.out.other C4.out m5 (fun c e => by rw [e]; exact desk_33))
            have B5 := Lib.hid b5
            clear hC5 m5 b5
            go_wp2_with fail
            refine (bwb_any B5.out C5.out 10 (by rw [List.length_append, byteCells_len, Lib.strCells_length]; omega)).mono ?_
            rintro e' w6 ⟨rfl, F6, v6, hC6, m6, b6⟩
            have FIN := Lib.hid (RunRel.next (W := w5) (F := F5) HO2.out HKK.out hC6 (D5.out.other C5.out m6 (fun c e => by rw [e]; exact desk_33)) (v := v6) (p := .pointer (some ⟨w1.heap.size + 1, 0, none⟩)) (bb := w1.heap.size + 1) (by rw [byteCells_app, byteCells_app]; exact b6))
            clear hC6 m6 b6
            go_wp2
            exact ⟨⟨j + 1, by omega, by simp, FIN.out⟩, by simp [RowKit.intOf]; omega⟩
    · obtain rfl : j = L.length := by omega
      have hpl := HPL.out
      rw [List.drop_length] at hpl
      cases hpl
      have eO : O = o1 := by rw [HO1.out]; simp
      have HST := Lib.hid (Tryz.Builder_String_any_k w1.heap.size (w1.heap.size + 1) o1 wo (HBL.out.isB HC.out) hso)
      go_wp2_with fail
      refine HST.out.mono ?_
      rintro e' w9 ⟨rfl, -, hb9, -⟩
      have FIN := Lib.hid (BS.out.trans ((BO.out.trans hb9).mono (Nat.le_of_lt hsz)))
      clear hb9
      go_wp2
      go_ret
      exact ⟨by rw [eO]; rfl, FIN.out⟩
end Go.Proofs.YthimchhnhhchkaaGreatDoor

namespace Go.Proofs.YthimchhnhhchkaaGreatDoor
open Go.RowKit Go.Lib
set_option linter.unusedSimpArgs false
set_option linter.unusedVariables false

theorem townW_tick : TownW ⟨#[116, 105, 99, 107]⟩ := ⟨by decide +kernel, by simp, by simp, by simp, by simp, by simp, by decide +kernel, by decide +kernel, by decide +kernel, by decide +kernel, by decide +kernel, by decide +kernel, by decide +kernel, by decide +kernel, by decide +kernel⟩
theorem townW_bring : TownW ⟨#[98, 114, 105, 110, 103]⟩ := ⟨by decide +kernel, by simp, by simp, by simp, by simp, by simp, by decide +kernel, by decide +kernel, by decide +kernel, by decide +kernel, by decide +kernel, by decide +kernel, by decide +kernel, by decide +kernel, by decide +kernel⟩
theorem townW_lose : TownW ⟨#[108, 111, 115, 101]⟩ := ⟨by decide +kernel, by simp, by simp, by simp, by simp, by simp, by decide +kernel, by decide +kernel, by decide +kernel, by decide +kernel, by decide +kernel, by decide +kernel, by decide +kernel, by decide +kernel, by decide +kernel⟩
theorem townW_stop : TownW ⟨#[115, 116, 111, 112]⟩ := ⟨by decide +kernel, by simp, by simp, by simp, by simp, by simp, by decide +kernel, by decide +kernel, by decide +kernel, by decide +kernel, by decide +kernel, by decide +kernel, by decide +kernel, by decide +kernel, by decide +kernel⟩
theorem townW_ask : TownW ⟨#[97, 115, 107]⟩ := ⟨by decide +kernel, by simp, by simp, by simp, by simp, by simp, by decide +kernel, by decide +kernel, by decide +kernel, by decide +kernel, by decide +kernel, by decide +kernel, by decide +kernel, by decide +kernel, by decide +kernel⟩
theorem townW_join : TownW ⟨#[106, 111, 105, 110]⟩ := ⟨by decide +kernel, by simp, by simp, by simp, by simp, by simp, by decide +kernel, by decide +kernel, by decide +kernel, by decide +kernel, by decide +kernel, by decide +kernel, by decide +kernel, by decide +kernel, by decide +kernel⟩
theorem townW_way : TownW ⟨#[119, 97, 121]⟩ := ⟨by decide +kernel, by simp, by simp, by simp, by simp, by simp, by decide +kernel, by decide +kernel, by decide +kernel, by decide +kernel, by decide +kernel, by decide +kernel, by decide +kernel, by decide +kernel, by decide +kernel⟩
theorem townW_start : TownW ⟨#[115, 116, 97, 114, 116]⟩ := ⟨by decide +kernel, by simp, by simp, by simp, by simp, by simp, by decide +kernel, by decide +kernel, by decide +kernel, by decide +kernel, by decide +kernel, by decide +kernel, by decide +kernel, by decide +kernel, by decide +kernel⟩
theorem townW_node : TownW ⟨#[110, 111, 100, 101]⟩ := ⟨by decide +kernel, by simp, by simp, by simp, by simp, by simp, by decide +kernel, by decide +kernel, by decide +kernel, by decide +kernel, by decide +kernel, by decide +kernel, by decide +kernel, by decide +kernel, by decide +kernel⟩
theorem line_tick {t : TSt} {L : List CfgD} {g : Int} {x1 out : ByteArray} (h1 : NumW x1 g) (hs : SayN (t.tickN g) (t.tickE g) out) (he : 0 ≤ t.tickE g ∧ t.tickE g < 100) :
    LineOk ⟨some t, L⟩ [⟨#[116, 105, 99, 107]⟩, x1] (ansT (t.tickE g) out) ⟨some (t.ticked g), L⟩ := by
  intro w W F db c cn A An tv hC hD hr hc
  obtain ⟨tb, rfl, -⟩ := hD.town
  exact answer_of hC hD hr hc townW_tick (askw_tick hC hD h1 hs) he
theorem line_bring {t : TSt} {L : List CfgD} {i j : Int} {x1 x2 out : ByteArray} (h1 : NumW x1 i) (h2 : NumW x2 j) (hs : SayN (t.bringN i j) (t.bringE i j) out) (he : 0 ≤ t.bringE i j ∧ t.bringE i j < 100) :
    LineOk ⟨some t, L⟩ [⟨#[98, 114, 105, 110, 103]⟩, x1, x2] (ansT (t.bringE i j) out) ⟨some (t.brought i j), L⟩ := by
  intro w W F db c cn A An tv hC hD hr hc
  obtain ⟨tb, rfl, -⟩ := hD.town
  exact answer_of hC hD hr hc townW_bring (askw_bring hC hD h1 h2 hs) he
theorem line_lose {t : TSt} {L : List CfgD} {i : Int} {x1 : ByteArray} (h1 : NumW x1 i)  (he : 0 ≤ t.loseE i ∧ t.loseE i < 100) :
    LineOk ⟨some t, L⟩ [⟨#[108, 111, 115, 101]⟩, x1] (ansT (t.loseE i) ⟨#[111, 107]⟩) ⟨some (t.lost i), L⟩ := by
  intro w W F db c cn A An tv hC hD hr hc
  obtain ⟨tb, rfl, -⟩ := hD.town
  exact answer_of hC hD hr hc townW_lose (askw_lose hC hD h1 ) he
theorem line_stop {t : TSt} {L : List CfgD} {i : Int} {x1 : ByteArray} (h1 : NumW x1 i)  (he : 0 ≤ t.stopE i ∧ t.stopE i < 100) :
    LineOk ⟨some t, L⟩ [⟨#[115, 116, 111, 112]⟩, x1] (ansT (t.stopE i) ⟨#[111, 107]⟩) ⟨some (t.stopped i), L⟩ := by
  intro w W F db c cn A An tv hC hD hr hc
  obtain ⟨tb, rfl, -⟩ := hD.town
  exact answer_of hC hD hr hc townW_stop (askw_stop hC hD h1 ) he
theorem line_ask {t : TSt} {L : List CfgD} {i : Int} {id x1 out : ByteArray} (h1 : NumW x1 i) (hs : SayO (t.lvV i id) (t.lvE i id) out) (he : 0 ≤ t.lvE i id ∧ t.lvE i id < 100) :
    LineOk ⟨some t, L⟩ [⟨#[97, 115, 107]⟩, x1, id] (ansT (t.lvE i id) out) ⟨some (t), L⟩ := by
  intro w W F db c cn A An tv hC hD hr hc
  obtain ⟨tb, rfl, -⟩ := hD.town
  exact answer_of hC hD hr hc townW_ask (askw_ask hC hD h1 hs) he
theorem line_join {t : TSt} {L : List CfgD} {i th : Int} {id x1 x3 out : ByteArray} (h1 : NumW x1 i) (h3 : NumW x3 th) (hs : SayN (t.joinN i id th) (t.joinE i id th) out) (he : 0 ≤ t.joinE i id th ∧ t.joinE i id th < 100) :
    LineOk ⟨some t, L⟩ [⟨#[106, 111, 105, 110]⟩, x1, id, x3] (ansT (t.joinE i id th) out) ⟨some (t.joined i id th), L⟩ := by
  intro w W F db c cn A An tv hC hD hr hc
  obtain ⟨tb, rfl, -⟩ := hD.town
  exact answer_of hC hD hr hc townW_join (askw_join hC hD h1 h3 hs) he
theorem line_way {t : TSt} {L : List CfgD} {out : ByteArray}  (hs : SayT [(t.way.length : Int)] out) (he : (0 : Int) ≤ 0 ∧ (0 : Int) < 100) :
    LineOk ⟨some t, L⟩ [⟨#[119, 97, 121]⟩] (ansT (0) out) ⟨some (t), L⟩ := by
  intro w W F db c cn A An tv hC hD hr hc
  obtain ⟨tb, rfl, -⟩ := hD.town
  exact answer_of hC hD hr hc townW_way (askw_way hC hD  hs) he
theorem line_start {s : DSt}   (he : 0 ≤ s.startE ∧ s.startE < 100) :
    LineOk s [⟨#[115, 116, 97, 114, 116]⟩] (ansT (s.startE) ⟨#[111, 107]⟩) s.started := by
  intro w W F db c cn A An tv hC hD hr hc
  exact answer_of hC hD hr hc townW_start (askw_start hC hD  ) he
theorem line_node {s : DSt} {ev ca le : Int} {id x2 x3 x4 : ByteArray} (h2 : NumW x2 ev) (h3 : NumW x3 ca) (h4 : NumW x4 le) (hid : id.size ≤ maxLen) (he : 0 ≤ s.nodeE (id, 0, ev, ca, le) ∧ s.nodeE (id, 0, ev, ca, le) < 100) :
    LineOk s [⟨#[110, 111, 100, 101]⟩, id, x2, x3, x4] (ansT (s.nodeE (id, 0, ev, ca, le)) ⟨#[111, 107]⟩) (s.noded (id, 0, ev, ca, le)) := by
  intro w W F db c cn A An tv hC hD hr hc
  exact answer_of hC hD hr hc townW_node (askw_node hC hD h2 h3 h4 hid) he
end Go.Proofs.YthimchhnhhchkaaGreatDoor
