/- node.Watch, walked. (with what it needs) -/
import Derived.Test.YthimchhnhhchkaaGreatDoorM35
import Derived.Test.YthimchhnhhchkaaGreatDoorM34
import Derived.Test.YthimchhnhhchkaaGreatDoorM28
import Derived.Test.YthimchhnhhchkaaGreatDoorM27
import Derived.BigQuiet
import Derived.Deep.QuietTactic
import Derived.Test.YthimchhnhhchkaaGreatDoorM20
namespace Go.Proofs.YthimchhnhhchkaaGreatDoor
open Go.RowKit Go.Lib
set_option linter.unusedSimpArgs false
set_option linter.unusedVariables false

instance (size first now : Int) : Decidable (ArgBad size first now) := by unfold ArgBad; infer_instance
/-- where a name belongs -/
def insAt (D : List PeerD) (id : ByteArray) : Nat := (D.takeWhile fun d => lessB d.1 id).length
def addE (D : List PeerD) (id : ByteArray) (size first now : Int) : Int := if idB id = false then 3 else if ArgBad size first now then 1 else if (idxOf D id).isSome = true then 5 else if D.length = 6 then 10 else 0
def addD (D : List PeerD) (id : ByteArray) (size first now : Int) : List PeerD := D.take (insAt D id) ++ newP id size first now :: D.drop (insAt D id)
theorem insAt_of {D : List PeerD} {id : ByteArray} : ∀ (i : Nat), i ≤ D.length → (∀ j, (hj : j < D.length) → j < i → lessB (D[j]'hj).1 id = true) → (∀ j, (hj : j < D.length) → i ≤ j → lessB (D[j]'hj).1 id = false) → insAt D id = i := by
  unfold insAt
  induction D with
  | nil => intro i hi _ _; simp at hi; subst hi; rfl
  | cons d D ih =>
    intro i hi h1 h2
    cases i with
    | zero =>
      have := h2 0 (by simp) (Nat.le_refl _)
      simp only [List.getElem_cons_zero] at this
      simp [List.takeWhile_cons, this]
    | succ i =>
      have := h1 0 (by simp) (by omega)
      simp only [List.getElem_cons_zero] at this
      simp only [List.takeWhile_cons, this, if_true, List.length_cons]
      rw [ih i (by simpa using hi) (fun j hj hji => by have := h1 (j + 1) (by simpa using hj) (by omega); simpa using this) (fun j hj hij => by have := h2 (j + 1) (by simpa using hj) (by omega); simpa using this)]
theorem idxl {l : List PeerT} {D : List PeerD} {id : ByteArray} (hm : l.map Prod.fst = D) (h : idxOf D id = none) : ∀ j, (hj : j < l.length) → pid (l[j]'hj) ≠ id := by
  subst hm
  intro j hj e
  exact idx_none h j (by simpa using hj) (by simpa using e)
def PAddIs (A : Option Addr) (l : List PeerT) (D : List PeerD) (id : ByteArray) (size first now : Int) (w : World) (x : Ending) (w' : World) : Prop :=
  if addE D id size first now = 0 then AddIs A l (addD D id size first now) (D.length + 1) w x w' else AddNo (addE D id size first now) w x w'
theorem arg_ok {size first now : Int} (h : ¬ ArgBad size first now) : 1 ≤ size ∧ size ≤ 64 ∧ wi first 0 16777216 = true ∧ 0 ≤ now ∧ now ≤ 1073741824 := by
  unfold ArgBad at h
  have q1 : ¬ size < 1 := fun e => h (.inl e)
  have q2 : ¬ 64 < size := fun e => h (.inr (.inl e))
  have q3 : wi first 0 16777216 = true := by
    cases hv : wi first 0 16777216
    · exact absurd (.inr (.inr (.inl ⟨by omega, by omega, hv⟩))) h
    · rfl
  have q4 : ¬ now < 0 := fun e => h (.inr (.inr (.inr (.inl ⟨by omega, by omega, q3, e⟩))))
  exact ⟨by omega, by omega, q3, by omega, Int.not_lt.1 fun e => h (.inr (.inr (.inr (.inr ⟨by omega, by omega, q3, by omega, e⟩))))⟩
/-- the place of a new name, as find tells it -/
theorem ins_find {A : Option Addr} {c n : Nat} {l : List PeerT} {D : List PeerD} {id : ByteArray} (hm : l.map Prod.fst = D) (ho : PsOk D) (hn : l.length = n) (hno : idxOf D id = none) :
    insAt D id ≤ n ∧ (∀ j, (hj : j < l.length) → j < insAt D id → lessB (pid (l[j]'hj)) id = true) ∧ (∀ j, (hj : j < l.length) → insAt D id ≤ j → lessB (pid (l[j]'hj)) id = false) ∧ ∀ (B : Nat) (w : World) (hp : Peers w B A n l) (hB : B ≤ w.heap.size),
      Calls Tryz.prog 162 #[.slice A n c, .string id] w fun e w' => e = .returned (.tuple #[.int .i64 (insAt D id : Int), .bool false]) ∧ Below w.heap.size w w' := by
  have he : peersE l = 0 := by rw [peersE_map, hm]; exact ho.zero
  obtain ⟨h6, hgood, hasc⟩ := peersE_zero he
  have hnl := idxl hm hno
  obtain ⟨i1, h1, h2, h3, -⟩ := find_none A c 0 n l hasc id hnl hn (by omega)
  have hi : insAt D id = i1 := by
    subst hm
    exact insAt_of i1 (by rw [List.length_map]; omega) (fun j hj hji => by have := h2 j (by simpa using hj) hji; simpa using this) (fun j hj hij => by have := h3 j (by simpa using hj) hij; simpa using this)
  rw [hi]
  exact ⟨h1, h2, h3, fun B w hp hB => find_is A c B n l id i1 false h1 (by omega) h2 h3 ⟨fun h => (by cases h), fun ⟨hj, h⟩ => absurd h (hnl i1 hj)⟩ w hp hB⟩
theorem padd_any (A : Option Addr) (c B n : Nat) (l : List PeerT) (D : List PeerD) (hm : l.map Prod.fst = D) (ho : PsOk D) (hnc : n ≤ c ∧ c ≤ maxLen) (id : ByteArray) (hid : id.size ≤ maxLen) (size first now : Int) (w : World) (hp : Peers w B A n l) (hB : B ≤ w.heap.size) :
    Calls Tryz.prog 139 #[.slice A n c, .string id, .int .i64 size, .int .i64 first, .int .i64 now] w (PAddIs A l D id size first now w) := by
  have hn : D.length = n := by rw [← hm, List.length_map]; exact hp.len
  have hmm : n ≤ maxLen := Nat.le_trans hnc.1 hnc.2
  have he : peersE l = 0 := by rw [peersE_map, hm]; exact ho.zero
  unfold PAddIs addE
  by_cases hi : idB id = false
  · rw [if_pos hi]; exact add_id A c B n l hmm id hid size first now w hp hB he hi
  rw [if_neg hi]
  have hi : idB id = true := by simpa using hi
  by_cases hbad : ArgBad size first now
  · rw [if_pos hbad]; exact add_arg A c B n l hmm id hid size first now w hp hB he hi hbad
  rw [if_neg hbad]
  obtain ⟨s0, s1, hfv, n0, n1⟩ := arg_ok hbad
  cases hx : idxOf D id with
  | some k =>
    obtain ⟨hk, h1, h2⟩ := idx_some hx
    rw [if_pos (show (some k).isSome = true from rfl)]
    have hkl : k < l.length := by rw [hp.len]; omega
    exact add_there A c B n l hmm id hid size first now w hp hB he hi s0 s1 hfv n0 n1 k hkl (by subst hm; simpa using h1)
  | none =>
    rw [if_neg (by simp)]
    by_cases h6 : D.length = 6
    · rw [if_pos h6]
      exact add_full A c B n l hmm id hid size first now w hp hB he hi s0 s1 hfv n0 n1 (idxl hm hx) (by omega)
    · rw [if_neg h6]
      obtain ⟨f1, f2, f3, f4⟩ := ins_find (A := A) (c := c) hm ho hp.len hx
      have := add_ok A c B n l hmm id hid size first now w hp hB he hi s0 s1 hfv n0 n1 (idxl hm hx) (by have := ho.six; omega) (insAt D id) f1 (fun w hp hB => f4 B w hp hB)
      rw [hm] at this
      rw [hn]
      refine this.mono fun x w' h => ?_
      rw [if_pos rfl]
      exact h
theorem addD_ok {D : List PeerD} {id : ByteArray} {size first now : Int} (ho : PsOk D) (he : addE D id size first now = 0) : PsOk (addD D id size first now) := by
  unfold addE at he
  by_cases hi : idB id = false
  · rw [if_pos hi] at he; cases he
  rw [if_neg hi] at he
  have hi : idB id = true := by simpa using hi
  by_cases hbad : ArgBad size first now
  · rw [if_pos hbad] at he; cases he
  rw [if_neg hbad] at he
  obtain ⟨s0, s1, hfv, n0, n1⟩ := arg_ok hbad
  cases hx : idxOf D id with
  | some k => rw [hx, if_pos (show (some k).isSome = true from rfl)] at he; cases he
  | none =>
    rw [hx, if_neg (by simp)] at he
    by_cases h6 : D.length = 6
    · rw [if_pos h6] at he; cases he
    have hml : (D.map dpt).map Prod.fst = D := by simp [Function.comp_def]
    obtain ⟨f1, f2, f3, -⟩ := ins_find (A := none) (c := 0) hml ho (by rw [List.length_map]) hx
    have hnew : DGood (newP id size first now) := by
      refine ⟨hi, ?_, ?_, n0, n1⟩
      · show GateOk 0 0 0; unfold GateOk; omega
      · show winE size [first] = 0
        unfold winE
        rw [if_pos (wi_true.2 ⟨s0, s1⟩), if_neg (by simp; omega)]
        unfold listE
        rw [if_neg (by simp), if_neg (by simp [offI, hfv])]
    have hlo : ∀ d ∈ D.take (insAt D id), lessB d.1 id = true := fun d hd => by
      obtain ⟨j, hj, rfl⟩ := List.getElem_of_mem hd
      rw [List.length_take] at hj
      have := f2 j (by rw [List.length_map]; omega) (by omega)
      simpa using this
    have hhi : ∀ d ∈ D.drop (insAt D id), lessB id d.1 = true := fun d hd => by
      obtain ⟨j, hj, rfl⟩ := List.getElem_of_mem hd
      rw [List.length_drop] at hj
      have h := f3 (insAt D id + j) (by rw [List.length_map]; omega) (by omega)
      simp only [List.getElem_drop]
      have hne := idx_none hx (insAt D id + j) (by omega)
      rcases more_false (by simpa using h) with h2 | h2
      · exact h2
      · exact absurd ((eqB_iff _ _).1 h2.2).symm hne
    refine ⟨by unfold addD; rw [List.length_append, List.length_cons, List.length_take, List.length_drop]; have := ho.six; omega, fun d hd => ?_, ?_⟩
    · rcases List.mem_append.1 hd with hd | hd
      · exact ho.good d (List.mem_of_mem_take hd)
      · rcases List.mem_cons.1 hd with rfl | hd
        · exact hnew
        · exact ho.good d (List.mem_of_mem_drop hd)
    · unfold addD
      rw [List.pairwise_append, List.pairwise_cons]
      exact ⟨ho.asc.sublist (List.take_sublist _ _), ⟨hhi, ho.asc.sublist (List.drop_sublist _ _)⟩, fun a ha b hb => by
        rcases List.mem_cons.1 hb with rfl | hb
        · exact hlo a ha
        · exact lessB_trans (hlo a ha) (hhi b hb)⟩
theorem addD_mem {D : List PeerD} {id : ByteArray} {size first now : Int} {d : PeerD} (h : d ∈ addD D id size first now) : d ∈ D ∨ d = newP id size first now := by
  unfold addD at h
  rcases List.mem_append.1 h with h | h
  · exact .inl (List.mem_of_mem_take h)
  · rcases List.mem_cons.1 h with h | h
    · exact .inr h
    · exact .inl (List.mem_of_mem_drop h)
def NSt.watchE (s : NSt) (id : ByteArray) (ev : Int) : Int := if id = s.c.1 then 5 else addE s.D id (cfc s.c) ev s.now
def NSt.watched (s : NSt) (id : ByteArray) (ev : Int) : NSt := if s.watchE id ev = 0 then { s with D := addD s.D id (cfc s.c) ev s.now } else s
theorem NGood.watched {s : NSt} (h : NGood s) (id : ByteArray) (ev : Int) : NGood (s.watched id ev) := by
  unfold NSt.watched
  split
  · rename_i he
    unfold NSt.watchE at he
    split at he
    · cases he
    refine ⟨h.id, h.cfg, h.now0, h.now1, h.seqs, h.drops0, h.drops1, addD_ok h.ps he, fun d hd => ?_, h.eight, h.th⟩
    rcases addD_mem hd with hd | rfl
    · exact h.pv d hd
    · exact ⟨Nat.le_refl _, Int.le_refl _⟩
  · exact h
/-- the answer of Watch -/
def WtIs (X : Nat → Prop) (b : Nat) (s' : NSt) (er : Int) (w : World) (e : Ending) (w' : World) : Prop := e = .returned (.int .i64 er) ∧ NodeAt (grow X w w') w' b s' ∧ Kept X w w'
theorem keeps_fr {w W : World} {A A' : Option Addr} {l l' : List PeerT} (h : KeepsP W A l A' l') (hs : w.heap.size ≤ W.heap.size) : KeepsP w A l A' l' := fun P hP h0 => h P (fun k hk => hP k (Nat.le_trans hs hk)) h0
theorem grow_of' {X : Nat → Prop} {w w1 w2 : World} (h : w1.heap.size ≤ w2.heap.size) : ∀ k, grow X w w1 k → grow X w w2 k := fun k hk => ⟨hk.1, Nat.lt_of_lt_of_le hk.2 h⟩
section
variable {X : Nat → Prop} {w : World} {b pn pc : Nat} {A : Option Addr} {sv : Value} {l : List PeerT} {s : NSt}
set_option maxHeartbeats 1000000 in
set_option maxRecDepth 100000 in
theorem watch_own (h : NodeIs X w b A pn pc sv l s) (ev : Int) :
    Calls Tryz.prog 110 #[.pointer (some ⟨b, 0, none⟩), .string s.c.1, .int .i64 ev] w (WtIs X b s 5 w) := by
  have HH := Lib.hid h
  have hbl := h.blk.lt
  have b0 := h.blk.cell 0
  simp [nodeCs] at b0
  clear h
  go_enter Tryz.func110, Tryz.ntmps110
  go_wp2
  go_ret
  exact ⟨rfl, HoldIs.at_ (HoldIs.grow HH.out), Kept.refl _ _⟩

set_option maxHeartbeats 1000000 in
set_option maxRecDepth 100000 in
theorem watch_no (h : NodeIs X w b A pn pc sv l s) (hg : NGood s) (id : ByteArray) (hid : id.size ≤ maxLen) (ev : Int) (hne : id ≠ s.c.1) (er : Int) (he : addE s.D id (cfc s.c) ev s.now = er) (hz : er ≠ 0) :
    Calls Tryz.prog 110 #[.pointer (some ⟨b, 0, none⟩), .string id, .int .i64 ev] w (WtIs X b s er w) := by
  have HH := Lib.hid h
  have HE := Lib.hid he
  have hbl := h.blk.lt
  have b0 := h.blk.cell 0
  simp [nodeCs] at b0
  have heq : (id.toList == s.c.1.toList) = false := eqB_no hne
  have HP := Lib.hid (show ∀ W, Below w.heap.size w W → Calls Tryz.prog 139 #[.slice A pn pc, .string id, .int .i64 (cfc s.c), .int .i64 ev, .int .i64 s.now] W (AddNo er W) from fun W hw =>
    (padd_any A pc w.heap.size pn l s.D h.map hg.ps h.room id hid (cfc s.c) ev s.now W (h.peers.below hw (Nat.le_refl _)) hw.size).mono fun x w' h => by unfold PAddIs at h; rw [HE.out, if_neg hz] at h; exact h)
  have HS := Lib.hid (show ∀ w', Below w.heap.size w w' → (Below w.heap.size w w' ∧ w'.cell? ⟨b, 8, none⟩ = some (.slice A pn pc) ∧ w'.cell? ⟨b, 3, none⟩ = some (.int .i64 (cfc s.c)) ∧ w'.cell? ⟨b, 5, none⟩ = some (.int .i64 s.now))
    from fun w' h => ⟨h, (HH.out.blk.below h hbl).cell 8, (HH.out.blk.below h hbl).cell 3, (HH.out.blk.below h hbl).cell 5⟩)
  clear h hg hne he
  go_enter Tryz.func110, Tryz.ntmps110
  go_upto_region 17 with fail
  clear b0 heq
  go_region_held3 (fun w' => Below w.heap.size w w' ∧ w'.cell? ⟨b, 8, none⟩ = some (.slice A pn pc) ∧ w'.cell? ⟨b, 3, none⟩ = some (.int .i64 (cfc s.c)) ∧ w'.cell? ⟨b, 5, none⟩ = some (.int .i64 s.now))
    ((refine HS.out _ ?_; repeat (first | (with_reducible exact hL3) | (with_reducible exact Below.refl _ _) | (with_reducible refine Below.al5 ?_) | (with_reducible refine Below.drew ?_))))
    ((go_at_call 139; (with_reducible refine (HP.out _ ?ia).mono ?_); (case ia => repeat (first | (with_reducible exact Below.refl _ _) | (with_reducible refine Below.al5 ?_) | (with_reducible refine Below.drew ?_))); rintro e' w3 ⟨rfl, hb3⟩; have hL3 : Below w.heap.size w w3 := Below.thru5 (by repeat (first | (with_reducible exact Below.refl _ _) | (with_reducible refine Below.al5 ?_) | (with_reducible refine Below.drew ?_))) hb3))
  all_goals
    have E3 := Lib.hid hL3
    clear hL3 hb3
    go_wp2
    all_goals first
      | (exfalso; omega)
      | (go_ret; exact ⟨rfl, HoldIs.at_ (HoldIs.grow (HoldIs.below HH.out E3.out)), .of_below E3.out⟩)

set_option maxHeartbeats 1000000 in
set_option maxRecDepth 100000 in
theorem watch_ok (h : NodeIs X w b A pn pc sv l s) (hg : NGood s) (id : ByteArray) (hid : id.size ≤ maxLen) (ev : Int) (hne : id ≠ s.c.1) (er : Int) (he : addE s.D id (cfc s.c) ev s.now = er) (hz : er = 0) :
    Calls Tryz.prog 110 #[.pointer (some ⟨b, 0, none⟩), .string id, .int .i64 ev] w (WtIs X b { s with D := addD s.D id (cfc s.c) ev s.now } 0 w) := by
  have HH := Lib.hid h
  have HE := Lib.hid he
  have hbl := h.blk.lt
  have b0 := h.blk.cell 0
  simp [nodeCs] at b0
  have heq : (id.toList == s.c.1.toList) = false := eqB_no hne
  have HP := Lib.hid (show ∀ W, Below w.heap.size w W → Calls Tryz.prog 139 #[.slice A pn pc, .string id, .int .i64 (cfc s.c), .int .i64 ev, .int .i64 s.now] W (AddIs A l (addD s.D id (cfc s.c) ev s.now) (s.D.length + 1) W) from fun W hw =>
    (padd_any A pc w.heap.size pn l s.D h.map hg.ps h.room id hid (cfc s.c) ev s.now W (h.peers.below hw (Nat.le_refl _)) hw.size).mono fun x w' h => by unfold PAddIs at h; rw [HE.out, if_pos hz] at h; exact h)
  have HS := Lib.hid (show ∀ w', Below w.heap.size w w' → (Below w.heap.size w w' ∧ w'.cell? ⟨b, 8, none⟩ = some (.slice A pn pc) ∧ w'.cell? ⟨b, 3, none⟩ = some (.int .i64 (cfc s.c)) ∧ w'.cell? ⟨b, 5, none⟩ = some (.int .i64 s.now))
    from fun w' h => ⟨h, (HH.out.blk.below h hbl).cell 8, (HH.out.blk.below h hbl).cell 3, (HH.out.blk.below h hbl).cell 5⟩)
  clear h hg hne he
  go_enter Tryz.func110, Tryz.ntmps110
  go_upto_region 17 with fail
  clear b0 heq
  go_region_held3 (fun w' => Below w.heap.size w w' ∧ w'.cell? ⟨b, 8, none⟩ = some (.slice A pn pc) ∧ w'.cell? ⟨b, 3, none⟩ = some (.int .i64 (cfc s.c)) ∧ w'.cell? ⟨b, 5, none⟩ = some (.int .i64 s.now))
    ((refine HS.out _ ?_; repeat (first | (with_reducible exact hL3) | (with_reducible exact Below.refl _ _) | (with_reducible refine Below.al5 ?_) | (with_reducible refine Below.drew ?_))))
    ((go_at_call 139; (with_reducible refine (HP.out _ ?ia).mono ?_); (case ia => repeat (first | (with_reducible exact Below.refl _ _) | (with_reducible refine Below.al5 ?_) | (with_reducible refine Below.drew ?_))); rintro e' w3 ⟨A3, c3, l3, rfl, hm3, hp3, hb3, hr3, hk3⟩; have hL3 : Below w.heap.size w w3 := Below.thru5 (by repeat (first | (with_reducible exact Below.refl _ _) | (with_reducible refine Below.al5 ?_) | (with_reducible refine Below.drew ?_))) hb3))
  all_goals
    have E3 := Lib.hid hL3
    have hbl3 : b < w3.heap.size := by have := hL3.size; omega
    have N3 := Lib.hid (HoldIs.below HH.out hL3)
    have HK3 := Lib.hid (keeps_fr (w := w) hk3 (by first | exact Nat.le_refl _ | (simp)))
    have NT := Lib.hid (HoldIs.turn (mk' := nodeCs s.c s.now s.seq s.drops) (i := 8) HH.out E3.out hp3 hm3 hr3 HK3.out rfl)
    have KT := Lib.hid ((Kept.of_below (X := X) E3.out).setCell (a := ⟨b, 8, none⟩) (.inl HH.out.xb) (.slice A3 (s.D.length + 1) c3))
    have f8 := N3.out.blk.frozen 8
    clear hL3 hb3 hm3 hp3 hr3 hk3
    go_wp2
    all_goals first
      | (exfalso; omega)
      | (go_ret; exact ⟨rfl, HoldAt.wide (HoldIs.at_ NT.out) (grow_of' (by simp [World.setCell])) (fun k hk => hk.2), KT.out⟩)
theorem watch_any (h : NodeIs X w b A pn pc sv l s) (hg : NGood s) (id : ByteArray) (hid : id.size ≤ maxLen) (ev : Int) :
    Calls Tryz.prog 110 #[.pointer (some ⟨b, 0, none⟩), .string id, .int .i64 ev] w (WtIs X b (s.watched id ev) (s.watchE id ev) w) := by
  unfold NSt.watched NSt.watchE
  by_cases hi : id = s.c.1
  · rw [if_pos hi, if_neg (by decide)]
    subst hi
    exact watch_own h ev
  · rw [if_neg hi]
    by_cases hz : addE s.D id (cfc s.c) ev s.now = 0
    · rw [if_pos hz, hz]; exact watch_ok h hg id hid ev hi _ rfl hz
    · rw [if_neg hz]; exact watch_no h hg id hid ev hi _ rfl hz
end
end Go.Proofs.YthimchhnhhchkaaGreatDoor

namespace Go.Proofs.YthimchhnhhchkaaGreatDoor
open Go.RowKit Go.Lib
set_option linter.unusedSimpArgs false
set_option linter.unusedVariables false

/-- the cells of the reference's node -/
def rnodeCs (c : CfgD) (now drops : Int) (pv sv : Value) : Array Value := #[.string c.1, .int .i64 (cfi c), .int .i64 (cfe c), .int .i64 (cfc c), .int .i64 (cfl c), .int .i64 now, .int .i64 drops, pv, sv]


theorem quiet_eqR {P : Program} {f : FuncId} {args : Array Value} {w : World} {n : Nat} {v : Value}
    (h : Calls P f args (w.drewN n) fun e w' => e = .returned v ∧ w.drewN n = w') : Calls P f args (w.drewN n) fun e w'' => e = .returned v ∧ ∃ m, w'' = w.drewN m :=
  h.mono fun _ _ ⟨he, hm⟩ => ⟨he, n, hm.symm⟩
























section
variable {X : Nat → Prop} {w : World} {b pn pc : Nat} {A : Option Addr} {sv : Value} {l : List PeerT} {s : NSt}






























































































end
end Go.Proofs.YthimchhnhhchkaaGreatDoor

namespace Go.Proofs.YthimchhnhhchkaaGreatDoor
open Go.RowKit Go.Lib
set_option linter.unusedSimpArgs false
set_option linter.unusedVariables false












































































































































section
variable {X : Nat → Prop} {w : World} {b pn pc : Nat} {A : Option Addr} {sv : Value} {l : List PeerT} {s : NSt}







































end
end Go.Proofs.YthimchhnhhchkaaGreatDoor

namespace Go.Proofs.YthimchhnhhchkaaGreatDoor
open Go.RowKit Go.Lib
set_option linter.unusedSimpArgs false
set_option linter.unusedVariables false

/-- not of that name -/
def notOf (id : ByteArray) (p : TriD) : Bool := !eqB p.1 id














/-- the place of the first of that name, or -1 -/
def ixN (id : ByteArray) (S : List TriD) : Int := match S.findIdx? (fun p => eqB p.1 id) with | some k => (k : Int) | none => -1



























































































theorem Row3.set3 {t : TypeId} {w : World} {g cap n : Nat} {l : List TriD} (h : Row3 t w g cap n l) (k : Nat) (hk : k < l.length) (p : TriD) :
    Row3 t (((w.setCell ⟨g, k * 3, none⟩ (.string p.1)).setCell ⟨g, k * 3 + 1, none⟩ (.int .i64 p.2.1)).setCell ⟨g, k * 3 + 2, none⟩ (.bool p.2.2)) g cap n (l.set k p) := by
  obtain ⟨h0, h1, h2, cur, h3, h4, h5⟩ := h
  refine ⟨by simpa using h0, h1, h2, _, ((h3.set_ (k * 3) (.string p.1)).set_ (k * 3 + 1) (.int .i64 p.2.1)).set_ (k * 3 + 2) (.bool p.2.2), by simpa using h4, ?_⟩
  have e1 := cells3_set l k 0 (.string p.1) (p.1, (l[k]'hk).2) hk (by decide) rfl
  have e2 := cells3_set (l.set k (p.1, (l[k]'hk).2)) k 1 (.int .i64 p.2.1) (p.1, p.2.1, (l[k]'hk).2.2) (by simpa using hk) (by decide) (by rw [List.getElem_set_self]; rfl)
  have e3 := cells3_set ((l.set k (p.1, (l[k]'hk).2)).set k (p.1, p.2.1, (l[k]'hk).2.2)) k 2 (.bool p.2.2) p (by simpa using hk) (by decide) (by rw [List.getElem_set_self]; rfl)
  rw [List.set_set, List.set_set] at e3
  rw [← e3]
  rw [List.set_set] at e2
  rw [← e2, ← e1, ← h5]
  simp only [Array.toList_setIfInBounds, List.take_set, Nat.add_zero]
theorem Row3.head {t : TypeId} {w : World} {g cap n : Nat} {l : List TriD} (h : Row3 t w g cap n l) (m : Nat) (hm : m ≤ n) : Row3 t w g cap m (l.take m) := by
  obtain ⟨h0, h1, h2, cur, h3, h4, h5⟩ := h
  refine ⟨by rw [List.length_take]; omega, by omega, h2, cur, h3, h4, ?_⟩
  rw [← cells3_take, ← h5, List.take_take, Nat.min_eq_left (by omega)]
/-- after j subs, i of which stay -/
def DRel (w : World) (g cap n : Nat) (S : List TriD) (id : ByteArray) (i j : Nat) (wr : World) : Prop :=
  ∃ M, Row3 187 wr g cap n M ∧ M.take i = (S.take j).filter (notOf id) ∧ M.drop j = S.drop j ∧ Kept (· = g) w wr
theorem DRel.len {w : World} {g cap n : Nat} {S : List TriD} {id : ByteArray} {i j : Nat} {wr : World} (h : DRel w g cap n S id i j wr) (hi : i ≤ n) : i = ((S.take j).filter (notOf id)).length := by
  obtain ⟨M, h1, h2, -⟩ := h
  rw [← h2, List.length_take, h1.1]; omega
theorem take_filter_skip {S : List TriD} {id : ByteArray} {j : Nat} (hj : j < S.length) (he : notOf id (S[j]'hj) = false) : (S.take (j + 1)).filter (notOf id) = (S.take j).filter (notOf id) := by
  rw [List.take_succ_eq_append_getElem hj, List.filter_append]
  simp [he]
theorem take_filter_keep {S : List TriD} {id : ByteArray} {j : Nat} (hj : j < S.length) (he : notOf id (S[j]'hj) = true) : (S.take (j + 1)).filter (notOf id) = (S.take j).filter (notOf id) ++ [S[j]'hj] := by
  rw [List.take_succ_eq_append_getElem hj, List.filter_append]
  simp [he]
theorem DRel.start {w wr : World} {g cap n : Nat} {S : List TriD} {id : ByteArray} {k : Nat} (hs : Row3 187 w g cap n S) (hk : k < S.length) (he : eqB (S[k]'hk).1 id = true) (hne : ∀ j, (hj : j < S.length) → j < k → eqB (S[j]'hj).1 id = false) (hb : Below w.heap.size w wr) : DRel w g cap n S id k (k + 1) wr := by
  refine ⟨S, hs.below hb hs.lt, ?_, rfl, .of_below hb⟩
  rw [take_filter_skip hk (by unfold notOf; rw [he]; rfl)]
  symm
  rw [List.filter_eq_self]
  intro x hx
  obtain ⟨j, hj, rfl⟩ := List.getElem_of_mem hx
  rw [List.length_take] at hj
  rw [List.getElem_take]
  unfold notOf
  rw [hne j (by omega) (by omega)]; rfl
theorem DRel.get {w wr : World} {g cap n : Nat} {S : List TriD} {id : ByteArray} {i j : Nat} (h : DRel w g cap n S id i j wr) (hj : j < S.length) (hn : S.length = n) : TriC wr g (j * 3) (S[j]'hj) := by
  obtain ⟨M, h1, h2, h3, h4⟩ := h
  have hjm : j < M.length := by rw [h1.1]; omega
  have e : M[j]'hjm = S[j]'hj := by
    have := congrArg (fun l => l[0]?) h3
    simp only [List.getElem?_drop, Nat.add_zero, List.getElem?_eq_getElem hjm, List.getElem?_eq_getElem hj] at this
    injection this
  have := h1.cells j hjm
  rwa [e] at this
theorem DRel.below {w wr w1 : World} {g cap n : Nat} {S : List TriD} {id : ByteArray} {i j : Nat} (h : DRel w g cap n S id i j wr) (hb : Below wr.heap.size wr w1) : DRel w g cap n S id i j w1 := by
  obtain ⟨M, h1, h2, h3, h4⟩ := h
  exact ⟨M, h1.below hb h1.lt, h2, h3, h4.step hb⟩
theorem DRel.skip {w wr : World} {g cap n : Nat} {S : List TriD} {id : ByteArray} {i j : Nat} (h : DRel w g cap n S id i j wr) (hj : j < S.length) (he : eqB (S[j]'hj).1 id = true) : DRel w g cap n S id i (j + 1) wr := by
  obtain ⟨M, h1, h2, h3, h4⟩ := h
  refine ⟨M, h1, ?_, ?_, h4⟩
  · rw [h2, take_filter_skip hj (by unfold notOf; rw [he]; rfl)]
  · have := congrArg (List.drop 1) h3
    rwa [List.drop_drop, List.drop_drop] at this
theorem DRel.put {w wr : World} {g cap n : Nat} {S : List TriD} {id : ByteArray} {i j : Nat} (h : DRel w g cap n S id i j wr) (hij : i < j) (hj : j < S.length) (hn : S.length = n) (he : eqB (S[j]'hj).1 id = false) (p : TriD) (hp : S[j]'hj = p) :
    DRel w g cap n S id (i + 1) (j + 1) (((wr.setCell ⟨g, i * 3, none⟩ (.string p.1)).setCell ⟨g, i * 3 + 1, none⟩ (.int .i64 p.2.1)).setCell ⟨g, i * 3 + 2, none⟩ (.bool p.2.2)) := by
  obtain ⟨M, h1, h2, h3, h4⟩ := h
  have hm := h1.1
  refine ⟨M.set i p, h1.set3 i (by omega) p, ?_, ?_, ((h4.setCell (.inl rfl) _).setCell (.inl rfl) _).setCell (.inl rfl) _⟩
  · rw [take_filter_keep hj (by unfold notOf; rw [he]; rfl), ← h2, hp, List.take_succ_eq_append_getElem (by rw [List.length_set]; omega), List.getElem_set_self, List.take_set, List.set_eq_of_length_le (by rw [List.length_take]; omega)]
  · rw [List.drop_set, if_pos (by omega)]
    have := congrArg (List.drop 1) h3
    rwa [List.drop_drop, List.drop_drop] at this
theorem Row3.of_own1 {t : TypeId} {w : World} {base g cap n : Nat} {l : List TriD} (h : w.ownsRow base t 3 (.slice (some ⟨g, 0, none⟩) n cap) n (cells3 l)) : Row3 t w g cap n l := by
  have hl : l.length = n := by have := h.1; rw [cells3_len] at this; omega
  rcases h.2 with ⟨hv, h0⟩ | ⟨g', cap', cur, hv, hbg, hg, hnc, hmc, hsz, hx⟩
  · cases hv
  · injection hv with h1 h2 h3
    injection h1 with h1
    injection h1 with h1
    subst h1 h3
    exact ⟨hl, hnc, hmc, cur, hg, hsz, hx⟩
/-- what DeleteFunc answers -/
def DfIs (g cap : Nat) (S : List TriD) (w : World) (e : Ending) (w' : World) : Prop := e = .returned (.slice (some ⟨g, 0, none⟩) S.length cap) ∧ Row3 187 w' g cap S.length S ∧ Kept (· = g) w w'




































































































































end Go.Proofs.YthimchhnhhchkaaGreatDoor

namespace Go.Proofs.YthimchhnhhchkaaGreatDoor
open Go.RowKit Go.Lib
set_option linter.unusedSimpArgs false
set_option linter.unusedVariables false

def cutAt (S : List TriD) (k : Nat) : List TriD := S.take k ++ S.drop (k + 1)
def NSt.partE (s : NSt) (id : ByteArray) (th : Int) : Int := if 0 ≤ ixI (isSub id th) s.S then 0 else 4
def NSt.parted (s : NSt) (id : ByteArray) (th : Int) : NSt := if 0 ≤ ixI (isSub id th) s.S then { s with S := cutAt s.S (ixI (isSub id th) s.S).toNat } else s
theorem cutAt_mem {S : List TriD} {k : Nat} {t : TriD} (h : t ∈ cutAt S k) : t ∈ S := by
  unfold cutAt at h
  rcases List.mem_append.1 h with h | h
  · exact List.mem_of_mem_take h
  · exact List.mem_of_mem_drop h
theorem cutAt_len {S : List TriD} {k : Nat} (h : k < S.length) : (cutAt S k).length = S.length - 1 := by
  unfold cutAt; rw [List.length_append, List.length_take, List.length_drop]; omega
theorem cutAt_le (S : List TriD) (k : Nat) : (cutAt S k).length ≤ S.length := by
  unfold cutAt; rw [List.length_append, List.length_take, List.length_drop]; omega
theorem ixI_lt {P : TriD → Bool} {S : List TriD} (h : 0 ≤ ixI P S) : (ixI P S).toNat < S.length ∧ ixI P S = ((ixI P S).toNat : Int) := by
  unfold ixI at h ⊢
  cases hi : S.findIdx? P with
  | none => rw [hi] at h; exact absurd h (by decide)
  | some k =>
    rw [List.findIdx?_eq_some_iff_getElem] at hi
    obtain ⟨hk, -⟩ := hi
    exact ⟨by simpa using hk, by simp⟩
theorem NGood.parted {s : NSt} (h : NGood s) (id : ByteArray) (th : Int) : NGood (s.parted id th) := by
  unfold NSt.parted
  split
  · exact ⟨h.id, h.cfg, h.now0, h.now1, h.seqs, h.drops0, h.drops1, h.ps, h.pv, Nat.le_trans (cutAt_le _ _) h.eight, fun t ht => h.th t (cutAt_mem ht)⟩
  · exact h
/-- subs that lie in the same block, which alone was written -/
theorem HoldIs.thin {T : TypeId} {mk mk' : Value → Value → Array Value} {X : Nat → Prop} {w w1 : World} {b pn pc g cap n n' i : Nat} {A : Option Addr} {l : List PeerT} {D : List PeerD} {S S' : List TriD}
    (h0 : HoldIs T mk X w b A pn pc (.slice (some ⟨g, 0, none⟩) n cap) l D S) (hk : Kept (· = g) w w1) (hs : Row3 187 w1 g cap n' S') (hm : (mk (.slice A pn pc) (.slice (some ⟨g, 0, none⟩) n cap)).setIfInBounds i (.slice (some ⟨g, 0, none⟩) n' cap) = mk' (.slice A pn pc) (.slice (some ⟨g, 0, none⟩) n' cap)) :
    HoldIs T mk' (Go.Proofs.YthimchhnhhchkaaGreatDoor.grow X w w1) (w1.setCell ⟨b, i, none⟩ (.slice (some ⟨g, 0, none⟩) n' cap)) b A pn pc (.slice (some ⟨g, 0, none⟩) n' cap) l D S' :=
  h0.join (hk.mono fun k hk => .inl (by simp only [Value.ownBlock]; rw [hk])) (.inr ⟨g, cap, n', rfl, hs⟩) (.inl rfl) hm

section
variable {X : Nat → Prop} {w : World} {b pn pc : Nat} {A : Option Addr} {sv : Value} {l : List PeerT} {s : NSt}

























































































end
end Go.Proofs.YthimchhnhhchkaaGreatDoor

namespace Go.Proofs.YthimchhnhhchkaaGreatDoor
open Go.RowKit Go.Lib
set_option linter.unusedSimpArgs false
set_option linter.unusedVariables false

def cutD (D : List PeerD) (k : Nat) : List PeerD := D.take k ++ D.drop (k + 1)
def NSt.leaveE (s : NSt) (id : ByteArray) : Int := match idxOf s.D id with | some _ => 0 | none => 4
def NSt.left (s : NSt) (id : ByteArray) : NSt := match idxOf s.D id with | some k => { s with D := cutD s.D k, S := s.S.filter (notOf id) } | none => s
theorem cutD_ok {D : List PeerD} (h : PsOk D) (k : Nat) : PsOk (cutD D k) := by
  unfold cutD
  refine ⟨by rw [List.length_append, List.length_take, List.length_drop]; have := h.six; omega, fun d hd => ?_, ?_⟩
  · rcases List.mem_append.1 hd with hd | hd
    · exact h.good d (List.mem_of_mem_take hd)
    · exact h.good d (List.mem_of_mem_drop hd)
  · have h1 : (D.take k ++ D.drop (k + 1)).Sublist (D.take k ++ D.drop k) := List.Sublist.append (List.Sublist.refl _) (List.drop_sublist_drop_left D (by omega))
    rw [List.take_append_drop] at h1
    exact h.asc.sublist h1
theorem NGood.left {s : NSt} (h : NGood s) (id : ByteArray) : NGood (s.left id) := by
  unfold NSt.left
  split
  · refine ⟨h.id, h.cfg, h.now0, h.now1, h.seqs, h.drops0, h.drops1, cutD_ok h.ps _, fun d hd => ?_, Nat.le_trans (List.length_filter_le _ _) h.eight, fun t ht => h.th t ((List.mem_filter.1 ht).1)⟩
    unfold cutD at hd
    rcases List.mem_append.1 hd with hd | hd
    · exact h.pv d (List.mem_of_mem_take hd)
    · exact h.pv d (List.mem_of_mem_drop hd)
  · exact h











section
variable {X : Nat → Prop} {w : World} {b pn pc : Nat} {A : Option Addr} {sv : Value} {l : List PeerT} {s : NSt}






























/-- what DeleteFunc answers, whatever the subs -/
def DfA (sv : Value) (S : List TriD) (w : World) (e : Ending) (w' : World) : Prop := ∃ sv', e = .returned sv' ∧ SubsAt w' sv' S ∧ Kept (fun k => sv.ownBlock = some k) w w' ∧ sv'.ownBlock = sv.ownBlock
theorem ixN_none {id : ByteArray} {S : List TriD} (h : S.findIdx? (fun p => eqB p.1 id) = none) : ixN id S = -1 ∧ S.filter (notOf id) = S := by
  refine ⟨by unfold ixN; rw [h], ?_⟩
  rw [List.filter_eq_self]
  rw [List.findIdx?_eq_none_iff] at h
  intro x hx
  unfold notOf
  rw [h x hx]; rfl


























































































end
end Go.Proofs.YthimchhnhhchkaaGreatDoor
