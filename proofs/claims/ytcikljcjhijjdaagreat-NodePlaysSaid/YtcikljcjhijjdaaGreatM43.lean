/- node.Watch, walked. (with what it needs) -/
import Derived.Test.YtcikljcjhijjdaaGreatM42
import Derived.Test.YtcikljcjhijjdaaGreatM40
import Derived.Test.YtcikljcjhijjdaaGreatM32
import Derived.Test.YtcikljcjhijjdaaGreatM31
import Derived.BigQuiet
import Derived.Deep.QuietTactic
namespace Go.Proofs.YtcikljcjhijjdaaGreat
open Go.RowKit Go.Lib
set_option linter.unusedSimpArgs false
set_option linter.unusedVariables false

instance (size first now : Int) : Decidable (ArgBad size first now) := by unfold ArgBad; infer_instance
/-- where a name belongs -/
def insAt (D : List PeerD) (id : ByteArray) : Nat := (D.takeWhile fun d => lessB d.1 id).length
def addE (D : List PeerD) (id : ByteArray) (size first now : Int) : Int := if idB id = false then 3 else if ArgBad size first now then 1 else if (idxOf D id).isSome = true then 5 else if D.length = 6 then 10 else 0
def addD (D : List PeerD) (id : ByteArray) (size first now : Int) : List PeerD := D.take (insAt D id) ++ newP id size first now :: D.drop (insAt D id)
theorem insAt_of {D : List PeerD} {id : ByteArray} : ∀ (i : Nat), i ≤ D.length → (∀ j, (hj : j < D.length) → j < i → lessB (D[j]'hj).1 id = true) → (∀ j, (hj : j < D.length) → i ≤ j → lessB (D[j]'hj).1 id = false) → insAt D id = i := by
  unfold insAt
  induction D with
  | nil => intro i hi _ _; simp at hi; subst hi; rfl
  | cons d D ih =>
    intro i hi h1 h2
    cases i with
    | zero =>
      have := h2 0 (by simp) (Nat.le_refl _)
      simp only [List.getElem_cons_zero] at this
      simp [List.takeWhile_cons, this]
    | succ i =>
      have := h1 0 (by simp) (by omega)
      simp only [List.getElem_cons_zero] at this
      simp only [List.takeWhile_cons, this, if_true, List.length_cons]
      rw [ih i (by simpa using hi) (fun j hj hji => by have := h1 (j + 1) (by simpa using hj) (by omega); simpa using this) (fun j hj hij => by have := h2 (j + 1) (by simpa using hj) (by omega); simpa using this)]
theorem idxl {l : List PeerT} {D : List PeerD} {id : ByteArray} (hm : l.map Prod.fst = D) (h : idxOf D id = none) : ∀ j, (hj : j < l.length) → pid (l[j]'hj) ≠ id := by
  subst hm
  intro j hj e
  exact idx_none h j (by simpa using hj) (by simpa using e)
def PAddIs (A : Option Addr) (l : List PeerT) (D : List PeerD) (id : ByteArray) (size first now : Int) (w : World) (x : Ending) (w' : World) : Prop :=
  if addE D id size first now = 0 then AddIs A l (addD D id size first now) (D.length + 1) w x w' else AddNo (addE D id size first now) w x w'
theorem arg_ok {size first now : Int} (h : ¬ ArgBad size first now) : 1 ≤ size ∧ size ≤ 64 ∧ wi first 0 16777216 = true ∧ 0 ≤ now ∧ now ≤ 1073741824 := by
  unfold ArgBad at h
  have q1 : ¬ size < 1 := fun e => h (.inl e)
  have q2 : ¬ 64 < size := fun e => h (.inr (.inl e))
  have q3 : wi first 0 16777216 = true := by
    cases hv : wi first 0 16777216
    · exact absurd (.inr (.inr (.inl ⟨by omega, by omega, hv⟩))) h
    · rfl
  have q4 : ¬ now < 0 := fun e => h (.inr (.inr (.inr (.inl ⟨by omega, by omega, q3, e⟩))))
  exact ⟨by omega, by omega, q3, by omega, Int.not_lt.1 fun e => h (.inr (.inr (.inr (.inr ⟨by omega, by omega, q3, by omega, e⟩))))⟩
/-- the place of a new name, as find tells it -/
theorem ins_find {A : Option Addr} {c n : Nat} {l : List PeerT} {D : List PeerD} {id : ByteArray} (hm : l.map Prod.fst = D) (ho : PsOk D) (hn : l.length = n) (hno : idxOf D id = none) :
    insAt D id ≤ n ∧ (∀ j, (hj : j < l.length) → j < insAt D id → lessB (pid (l[j]'hj)) id = true) ∧ (∀ j, (hj : j < l.length) → insAt D id ≤ j → lessB (pid (l[j]'hj)) id = false) ∧ ∀ (B : Nat) (w : World) (hp : Peers w B A n l) (hB : B ≤ w.heap.size),
      Calls Tryz.prog 69 #[.slice A n c, .string id] w fun e w' => e = .returned (.tuple #[.int .i64 (insAt D id : Int), .bool false]) ∧ Below w.heap.size w w' := by
  have he : peersE l = 0 := by rw [peersE_map, hm]; exact ho.zero
  obtain ⟨h6, hgood, hasc⟩ := peersE_zero he
  have hnl := idxl hm hno
  obtain ⟨i1, h1, h2, h3, -⟩ := find_none A c 0 n l hasc id hnl hn (by omega)
  have hi : insAt D id = i1 := by
    subst hm
    exact insAt_of i1 (by rw [List.length_map]; omega) (fun j hj hji => by have := h2 j (by simpa using hj) hji; simpa using this) (fun j hj hij => by have := h3 j (by simpa using hj) hij; simpa using this)
  rw [hi]
  exact ⟨h1, h2, h3, fun B w hp hB => find_is A c B n l id i1 false h1 (by omega) h2 h3 ⟨fun h => (by cases h), fun ⟨hj, h⟩ => absurd h (hnl i1 hj)⟩ w hp hB⟩
theorem padd_any (A : Option Addr) (c B n : Nat) (l : List PeerT) (D : List PeerD) (hm : l.map Prod.fst = D) (ho : PsOk D) (hnc : n ≤ c ∧ c ≤ maxLen) (id : ByteArray) (hid : id.size ≤ maxLen) (size first now : Int) (w : World) (hp : Peers w B A n l) (hB : B ≤ w.heap.size) :
    Calls Tryz.prog 33 #[.slice A n c, .string id, .int .i64 size, .int .i64 first, .int .i64 now] w (PAddIs A l D id size first now w) := by
  have hn : D.length = n := by rw [← hm, List.length_map]; exact hp.len
  have hmm : n ≤ maxLen := Nat.le_trans hnc.1 hnc.2
  have he : peersE l = 0 := by rw [peersE_map, hm]; exact ho.zero
  unfold PAddIs addE
  by_cases hi : idB id = false
  · rw [if_pos hi]; exact add_id A c B n l hmm id hid size first now w hp hB he hi
  rw [if_neg hi]
  have hi : idB id = true := by simpa using hi
  by_cases hbad : ArgBad size first now
  · rw [if_pos hbad]; exact add_arg A c B n l hmm id hid size first now w hp hB he hi hbad
  rw [if_neg hbad]
  obtain ⟨s0, s1, hfv, n0, n1⟩ := arg_ok hbad
  cases hx : idxOf D id with
  | some k =>
    obtain ⟨hk, h1, h2⟩ := idx_some hx
    rw [if_pos (show (some k).isSome = true from rfl)]
    have hkl : k < l.length := by rw [hp.len]; omega
    exact add_there A c B n l hmm id hid size first now w hp hB he hi s0 s1 hfv n0 n1 k hkl (by subst hm; simpa using h1)
  | none =>
    rw [if_neg (by simp)]
    by_cases h6 : D.length = 6
    · rw [if_pos h6]
      exact add_full A c B n l hmm id hid size first now w hp hB he hi s0 s1 hfv n0 n1 (idxl hm hx) (by omega)
    · rw [if_neg h6]
      obtain ⟨f1, f2, f3, f4⟩ := ins_find (A := A) (c := c) hm ho hp.len hx
      have := add_ok A c B n l hmm id hid size first now w hp hB he hi s0 s1 hfv n0 n1 (idxl hm hx) (by have := ho.six; omega) (insAt D id) f1 (fun w hp hB => f4 B w hp hB)
      rw [hm] at this
      rw [hn]
      refine this.mono fun x w' h => ?_
      rw [if_pos rfl]
      exact h
theorem addD_ok {D : List PeerD} {id : ByteArray} {size first now : Int} (ho : PsOk D) (he : addE D id size first now = 0) : PsOk (addD D id size first now) := by
  unfold addE at he
  by_cases hi : idB id = false
  · rw [if_pos hi] at he; cases he
  rw [if_neg hi] at he
  have hi : idB id = true := by simpa using hi
  by_cases hbad : ArgBad size first now
  · rw [if_pos hbad] at he; cases he
  rw [if_neg hbad] at he
  obtain ⟨s0, s1, hfv, n0, n1⟩ := arg_ok hbad
  cases hx : idxOf D id with
  | some k => rw [hx, if_pos (show (some k).isSome = true from rfl)] at he; cases he
  | none =>
    rw [hx, if_neg (by simp)] at he
    by_cases h6 : D.length = 6
    · rw [if_pos h6] at he; cases he
    have hml : (D.map dpt).map Prod.fst = D := by simp [Function.comp_def]
    obtain ⟨f1, f2, f3, -⟩ := ins_find (A := none) (c := 0) hml ho (by rw [List.length_map]) hx
    have hnew : DGood (newP id size first now) := by
      refine ⟨hi, ?_, ?_, n0, n1⟩
      · show GateOk 0 0 0; unfold GateOk; omega
      · show winE size [first] = 0
        unfold winE
        rw [if_pos (wi_true.2 ⟨s0, s1⟩), if_neg (by simp; omega)]
        unfold listE
        rw [if_neg (by simp), if_neg (by simp [offI, hfv])]
    have hlo : ∀ d ∈ D.take (insAt D id), lessB d.1 id = true := fun d hd => by
      obtain ⟨j, hj, rfl⟩ := List.getElem_of_mem hd
      rw [List.length_take] at hj
      have := f2 j (by rw [List.length_map]; omega) (by omega)
      simpa using this
    have hhi : ∀ d ∈ D.drop (insAt D id), lessB id d.1 = true := fun d hd => by
      obtain ⟨j, hj, rfl⟩ := List.getElem_of_mem hd
      rw [List.length_drop] at hj
      have h := f3 (insAt D id + j) (by rw [List.length_map]; omega) (by omega)
      simp only [List.getElem_drop]
      have hne := idx_none hx (insAt D id + j) (by omega)
      rcases more_false (by simpa using h) with h2 | h2
      · exact h2
      · exact absurd ((eqB_iff _ _).1 h2.2).symm hne
    refine ⟨by unfold addD; rw [List.length_append, List.length_cons, List.length_take, List.length_drop]; have := ho.six; omega, fun d hd => ?_, ?_⟩
    · rcases List.mem_append.1 hd with hd | hd
      · exact ho.good d (List.mem_of_mem_take hd)
      · rcases List.mem_cons.1 hd with rfl | hd
        · exact hnew
        · exact ho.good d (List.mem_of_mem_drop hd)
    · unfold addD
      rw [List.pairwise_append, List.pairwise_cons]
      exact ⟨ho.asc.sublist (List.take_sublist _ _), ⟨hhi, ho.asc.sublist (List.drop_sublist _ _)⟩, fun a ha b hb => by
        rcases List.mem_cons.1 hb with rfl | hb
        · exact hlo a ha
        · exact lessB_trans (hlo a ha) (hhi b hb)⟩
theorem addD_mem {D : List PeerD} {id : ByteArray} {size first now : Int} {d : PeerD} (h : d ∈ addD D id size first now) : d ∈ D ∨ d = newP id size first now := by
  unfold addD at h
  rcases List.mem_append.1 h with h | h
  · exact .inl (List.mem_of_mem_take h)
  · rcases List.mem_cons.1 h with h | h
    · exact .inr h
    · exact .inl (List.mem_of_mem_drop h)
def NSt.watchE (s : NSt) (id : ByteArray) (ev : Int) : Int := if id = s.c.1 then 5 else addE s.D id (cfc s.c) ev s.now
def NSt.watched (s : NSt) (id : ByteArray) (ev : Int) : NSt := if s.watchE id ev = 0 then { s with D := addD s.D id (cfc s.c) ev s.now } else s
theorem NGood.watched {s : NSt} (h : NGood s) (id : ByteArray) (ev : Int) : NGood (s.watched id ev) := by
  unfold NSt.watched
  split
  · rename_i he
    unfold NSt.watchE at he
    split at he
    · cases he
    refine ⟨h.id, h.cfg, h.now0, h.now1, h.seqs, h.drops0, h.drops1, addD_ok h.ps he, fun d hd => ?_, h.eight, h.th⟩
    rcases addD_mem hd with hd | rfl
    · exact h.pv d hd
    · exact ⟨Nat.le_refl _, Int.le_refl _⟩
  · exact h
/-- the answer of Watch -/
def WtIs (X : Nat → Prop) (b : Nat) (s' : NSt) (er : Int) (w : World) (e : Ending) (w' : World) : Prop := e = .returned (.int .i64 er) ∧ NodeAt (grow X w w') w' b s' ∧ Kept X w w'
theorem keeps_fr {w W : World} {A A' : Option Addr} {l l' : List PeerT} (h : KeepsP W A l A' l') (hs : w.heap.size ≤ W.heap.size) : KeepsP w A l A' l' := fun P hP h0 => h P (fun k hk => hP k (Nat.le_trans hs hk)) h0
theorem grow_of' {X : Nat → Prop} {w w1 w2 : World} (h : w1.heap.size ≤ w2.heap.size) : ∀ k, grow X w w1 k → grow X w w2 k := fun k hk => ⟨hk.1, Nat.lt_of_lt_of_le hk.2 h⟩
section
variable {X : Nat → Prop} {w : World} {b pn pc : Nat} {A : Option Addr} {sv : Value} {l : List PeerT} {s : NSt}
set_option maxHeartbeats 1000000 in
set_option maxRecDepth 100000 in
theorem watch_own (h : NodeIs X w b A pn pc sv l s) (ev : Int) :
    Calls Tryz.prog 5 #[.pointer (some ⟨b, 0, none⟩), .string s.c.1, .int .i64 ev] w (WtIs X b s 5 w) := by
  have HH := Lib.hid h
  have hbl := h.blk.lt
  have b0 := h.blk.cell 0
  simp [nodeCs] at b0
  clear h
  go_enter Tryz.func5, Tryz.ntmps5
  go_wp2
  go_ret
  exact ⟨rfl, HoldIs.at_ (HoldIs.grow HH.out), Kept.refl _ _⟩

set_option maxHeartbeats 1000000 in
set_option maxRecDepth 100000 in
theorem watch_no (h : NodeIs X w b A pn pc sv l s) (hg : NGood s) (id : ByteArray) (hid : id.size ≤ maxLen) (ev : Int) (hne : id ≠ s.c.1) (er : Int) (he : addE s.D id (cfc s.c) ev s.now = er) (hz : er ≠ 0) :
    Calls Tryz.prog 5 #[.pointer (some ⟨b, 0, none⟩), .string id, .int .i64 ev] w (WtIs X b s er w) := by
  have HH := Lib.hid h
  have HE := Lib.hid he
  have hbl := h.blk.lt
  have b0 := h.blk.cell 0
  simp [nodeCs] at b0
  have heq : (id.toList == s.c.1.toList) = false := eqB_no hne
  have HP := Lib.hid (show ∀ W, Below w.heap.size w W → Calls Tryz.prog 33 #[.slice A pn pc, .string id, .int .i64 (cfc s.c), .int .i64 ev, .int .i64 s.now] W (AddNo er W) from fun W hw =>
    (padd_any A pc w.heap.size pn l s.D h.map hg.ps h.room id hid (cfc s.c) ev s.now W (h.peers.below hw (Nat.le_refl _)) hw.size).mono fun x w' h => by unfold PAddIs at h; rw [HE.out, if_neg hz] at h; exact h)
  have HS := Lib.hid (show ∀ w', Below w.heap.size w w' → (Below w.heap.size w w' ∧ w'.cell? ⟨b, 8, none⟩ = some (.slice A pn pc) ∧ w'.cell? ⟨b, 3, none⟩ = some (.int .i64 (cfc s.c)) ∧ w'.cell? ⟨b, 5, none⟩ = some (.int .i64 s.now))
    from fun w' h => ⟨h, (HH.out.blk.below h hbl).cell 8, (HH.out.blk.below h hbl).cell 3, (HH.out.blk.below h hbl).cell 5⟩)
  clear h hg hne he
  go_enter Tryz.func5, Tryz.ntmps5
  go_upto_region 17 with fail
  clear b0 heq
  go_region_held3 (fun w' => Below w.heap.size w w' ∧ w'.cell? ⟨b, 8, none⟩ = some (.slice A pn pc) ∧ w'.cell? ⟨b, 3, none⟩ = some (.int .i64 (cfc s.c)) ∧ w'.cell? ⟨b, 5, none⟩ = some (.int .i64 s.now))
    ((refine HS.out _ ?_; repeat (first | (with_reducible exact hL3) | (with_reducible exact Below.refl _ _) | (with_reducible refine Below.al5 ?_) | (with_reducible refine Below.drew ?_))))
    ((go_at_call 33; (with_reducible refine (HP.out _ ?ia).mono ?_); (case ia => repeat (first | (with_reducible exact Below.refl _ _) | (with_reducible refine Below.al5 ?_) | (with_reducible refine Below.drew ?_))); rintro e' w3 ⟨rfl, hb3⟩; have hL3 : Below w.heap.size w w3 := Below.thru5 (by repeat (first | (with_reducible exact Below.refl _ _) | (with_reducible refine Below.al5 ?_) | (with_reducible refine Below.drew ?_))) hb3))
  all_goals
    have E3 := Lib.hid hL3
    clear hL3 hb3
    go_wp2
    all_goals first
      | (exfalso; omega)
      | (go_ret; exact ⟨rfl, HoldIs.at_ (HoldIs.grow (HoldIs.below HH.out E3.out)), .of_below E3.out⟩)

set_option maxHeartbeats 1000000 in
set_option maxRecDepth 100000 in
theorem watch_ok (h : NodeIs X w b A pn pc sv l s) (hg : NGood s) (id : ByteArray) (hid : id.size ≤ maxLen) (ev : Int) (hne : id ≠ s.c.1) (er : Int) (he : addE s.D id (cfc s.c) ev s.now = er) (hz : er = 0) :
    Calls Tryz.prog 5 #[.pointer (some ⟨b, 0, none⟩), .string id, .int .i64 ev] w (WtIs X b { s with D := addD s.D id (cfc s.c) ev s.now } 0 w) := by
  have HH := Lib.hid h
  have HE := Lib.hid he
  have hbl := h.blk.lt
  have b0 := h.blk.cell 0
  simp [nodeCs] at b0
  have heq : (id.toList == s.c.1.toList) = false := eqB_no hne
  have HP := Lib.hid (show ∀ W, Below w.heap.size w W → Calls Tryz.prog 33 #[.slice A pn pc, .string id, .int .i64 (cfc s.c), .int .i64 ev, .int .i64 s.now] W (AddIs A l (addD s.D id (cfc s.c) ev s.now) (s.D.length + 1) W) from fun W hw =>
    (padd_any A pc w.heap.size pn l s.D h.map hg.ps h.room id hid (cfc s.c) ev s.now W (h.peers.below hw (Nat.le_refl _)) hw.size).mono fun x w' h => by unfold PAddIs at h; rw [HE.out, if_pos hz] at h; exact h)
  have HS := Lib.hid (show ∀ w', Below w.heap.size w w' → (Below w.heap.size w w' ∧ w'.cell? ⟨b, 8, none⟩ = some (.slice A pn pc) ∧ w'.cell? ⟨b, 3, none⟩ = some (.int .i64 (cfc s.c)) ∧ w'.cell? ⟨b, 5, none⟩ = some (.int .i64 s.now))
    from fun w' h => ⟨h, (HH.out.blk.below h hbl).cell 8, (HH.out.blk.below h hbl).cell 3, (HH.out.blk.below h hbl).cell 5⟩)
  clear h hg hne he
  go_enter Tryz.func5, Tryz.ntmps5
  go_upto_region 17 with fail
  clear b0 heq
  go_region_held3 (fun w' => Below w.heap.size w w' ∧ w'.cell? ⟨b, 8, none⟩ = some (.slice A pn pc) ∧ w'.cell? ⟨b, 3, none⟩ = some (.int .i64 (cfc s.c)) ∧ w'.cell? ⟨b, 5, none⟩ = some (.int .i64 s.now))
    ((refine HS.out _ ?_; repeat (first | (with_reducible exact hL3) | (with_reducible exact Below.refl _ _) | (with_reducible refine Below.al5 ?_) | (with_reducible refine Below.drew ?_))))
    ((go_at_call 33; (with_reducible refine (HP.out _ ?ia).mono ?_); (case ia => repeat (first | (with_reducible exact Below.refl _ _) | (with_reducible refine Below.al5 ?_) | (with_reducible refine Below.drew ?_))); rintro e' w3 ⟨A3, c3, l3, rfl, hm3, hp3, hb3, hr3, hk3⟩; have hL3 : Below w.heap.size w w3 := Below.thru5 (by repeat (first | (with_reducible exact Below.refl _ _) | (with_reducible refine Below.al5 ?_) | (with_reducible refine Below.drew ?_))) hb3))
  all_goals
    have E3 := Lib.hid hL3
    have hbl3 : b < w3.heap.size := by have := hL3.size; omega
    have N3 := Lib.hid (HoldIs.below HH.out hL3)
    have HK3 := Lib.hid (keeps_fr (w := w) hk3 (by first | exact Nat.le_refl _ | (simp)))
    have NT := Lib.hid (HoldIs.turn (mk' := nodeCs s.c s.now s.seq s.drops) (i := 8) HH.out E3.out hp3 hm3 hr3 HK3.out rfl)
    have KT := Lib.hid ((Kept.of_below (X := X) E3.out).setCell (a := ⟨b, 8, none⟩) (.inl HH.out.xb) (.slice A3 (s.D.length + 1) c3))
    have f8 := N3.out.blk.frozen 8
    clear hL3 hb3 hm3 hp3 hr3 hk3
    go_wp2
    all_goals first
      | (exfalso; omega)
      | (go_ret; exact ⟨rfl, HoldAt.wide (HoldIs.at_ NT.out) (grow_of' (by simp [World.setCell])) (fun k hk => hk.2), KT.out⟩)
theorem watch_any (h : NodeIs X w b A pn pc sv l s) (hg : NGood s) (id : ByteArray) (hid : id.size ≤ maxLen) (ev : Int) :
    Calls Tryz.prog 5 #[.pointer (some ⟨b, 0, none⟩), .string id, .int .i64 ev] w (WtIs X b (s.watched id ev) (s.watchE id ev) w) := by
  unfold NSt.watched NSt.watchE
  by_cases hi : id = s.c.1
  · rw [if_pos hi, if_neg (by decide)]
    subst hi
    exact watch_own h ev
  · rw [if_neg hi]
    by_cases hz : addE s.D id (cfc s.c) ev s.now = 0
    · rw [if_pos hz, hz]; exact watch_ok h hg id hid ev hi _ rfl hz
    · rw [if_neg hz]; exact watch_no h hg id hid ev hi _ rfl hz
end
end Go.Proofs.YtcikljcjhijjdaaGreat

namespace Go.Proofs.YtcikljcjhijjdaaGreat
open Go.RowKit Go.Lib
set_option linter.unusedSimpArgs false
set_option linter.unusedVariables false

/-- the cells of the reference's node -/
def rnodeCs (c : CfgD) (now drops : Int) (pv sv : Value) : Array Value := #[.string c.1, .int .i64 (cfi c), .int .i64 (cfe c), .int .i64 (cfc c), .int .i64 (cfl c), .int .i64 now, .int .i64 drops, pv, sv]
def RNodeIs (X : Nat → Prop) (w : World) (b : Nat) (A : Option Addr) (pn pc : Nat) (sv : Value) (l : List PeerT) (s : NSt) : Prop := HoldIs 36 (rnodeCs s.c s.now s.drops) X w b A pn pc sv l s.D s.S
def RNodeAt (X : Nat → Prop) (w : World) (b : Nat) (s : NSt) : Prop := HoldAt 36 (rnodeCs s.c s.now s.drops) X w b s.D s.S
theorem quiet_eqR {P : Program} {f : FuncId} {args : Array Value} {w : World} {n : Nat} {v : Value}
    (h : Calls P f args (w.drewN n) fun e w' => e = .returned v ∧ w.drewN n = w') : Calls P f args (w.drewN n) fun e w'' => e = .returned v ∧ ∃ m, w'' = w.drewN m :=
  h.mono fun _ _ ⟨he, hm⟩ => ⟨he, n, hm.symm⟩

set_option maxHeartbeats 1000000 in
set_option maxRecDepth 100000 in
theorem sent_core (b : Nat) (c : CfgD) (now drops : Int) (pv sv : Value) (h0 : 0 ≤ now) (h1 : now ≤ 4611686018427387904) (hc : CfgIn c) (w : World) (hb : Blk w b 36 (rnodeCs c now drops pv sv)) :
    Calls Tryz.prog 27 #[.pointer (some ⟨b, 0, none⟩)] w fun e w' => e = .returned (.int .i64 (now / cfe c)) ∧ ∃ n, w' = w.drewN n := by
  unfold CfgIn at hc
  obtain ⟨-, -, he1, he2, -⟩ := hc
  have b2 := hb.cell 2
  have b5 := hb.cell 5
  have hbl := hb.lt
  simp [rnodeCs] at b2 b5
  have w3 : now.tdiv (cfe c) = now / cfe c := Int.tdiv_eq_ediv_of_nonneg h0
  have q0 : 0 ≤ now / cfe c := Int.ediv_nonneg h0 (by omega)
  have q1 : now / cfe c ≤ now := Int.ediv_le_self _ h0
  generalize hq : now / cfe c = q at *
  have HQ := Lib.hid hq
  clear hb hq
  go_enter Tryz.func27, Tryz.ntmps27
  go_wp2_with fail
  go_quiet (fail)
  go_wp2
  go_ret
  exact ⟨rfl, nq, rfl⟩

section
variable {X : Nat → Prop} {w : World} {b pn pc : Nat} {A : Option Addr} {sv : Value} {l : List PeerT} {s : NSt}
set_option maxHeartbeats 1000000 in
set_option maxRecDepth 100000 in
theorem rlv_none (hb : Blk w b 36 (rnodeCs s.c s.now s.drops (.slice A pn pc) sv)) (hp : Peers w w.heap.size A pn l) (hm : pn ≤ maxLen) (id : ByteArray) (hno : ∀ j, (hj : j < l.length) → pid (l[j]'hj) ≠ id) :
    Calls Tryz.prog 23 #[.pointer (some ⟨b, 0, none⟩), .string id] w (LvIs 0 4 w) := by
  have b7 := hb.cell 7
  have hbl := hb.lt
  simp [rnodeCs] at b7
  have HF := Lib.hid (rfind_none A pc w.heap.size pn l id hno hm w hp (Nat.le_refl _))
  clear hb hp hno
  go_enter Tryz.func23, Tryz.ntmps23
  go_wp2_with fail
  refine HF.out.mono ?_
  rintro e' w1 ⟨rfl, hb1⟩
  have B1 := Lib.hid hb1
  clear hb1
  go_wp2
  refine bodyPost_ret (v := .tuple #[.int .i64 0, .int .i64 4]) (by simp [results, Tryz.results23, go_sem]) rfl ⟨rfl, B1.out⟩

set_option maxHeartbeats 1000000 in
set_option maxRecDepth 100000 in
theorem rlv_some (hb : Blk w b 36 (rnodeCs s.c s.now s.drops (.slice A pn pc) sv)) (hp : Peers w w.heap.size A pn l) (hm : pn ≤ maxLen) (id : ByteArray) (k : Nat) (hk : k < l.length) (hid : pid (l[k]'hk) = id) (hfst : ∀ j, (hj : j < l.length) → j < k → pid (l[j]'hj) ≠ id)
    (hok : PlOk (cfl s.c) s.now (l[k]'hk).1) (h0 : 0 ≤ s.now) (h1 : s.now ≤ 1073741824) :
    Calls Tryz.prog 23 #[.pointer (some ⟨b, 0, none⟩), .string id] w (LvIs (plv (cfl s.c) s.now (l[k]'hk).1) 0 w) := by
  have hbl := hb.lt
  have HB := Lib.hid hb
  have HP := Lib.hid hp
  have b7 := hb.cell 7
  simp [rnodeCs] at b7
  have hkn : k < pn := by rw [← hp.len]; exact hk
  have hf := rfind_some A pc w.heap.size pn l k hk (fun j hj hjk => by rw [hid]; exact hfst j hj hjk) hm w hp (Nat.le_refl _)
  rw [hid] at hf
  have HF := Lib.hid hf
  obtain ⟨p, hpk⟩ : ∃ p, l[k]'hk = p := ⟨_, rfl⟩
  have HPK := Lib.hid hpk
  rw [hpk] at hok ⊢
  have HK := Lib.hid hok
  clear hb hp hid hfst hok hpk hf
  unfold maxLen at hm
  go_enter Tryz.func23, Tryz.ntmps23
  go_wp2_with fail
  refine HF.out.mono ?_
  rintro e' w1 ⟨rfl, hb1⟩
  have B1 := Lib.hid hb1
  have HP1 := Lib.hid (HP.out.below hb1 (Nat.le_refl _))
  clear hb1 b7
  obtain ⟨pb, off, rfl, hpb, hcs⟩ := HP1.out.addr (by omega)
  have hck := hcs k hk
  have hok2 := HP1.out.ok _ (List.getElem_mem hk)
  rw [HPK.out] at hck hok2
  have OK := Lib.hid hok2
  have CK := Lib.hid hck
  obtain ⟨c0, c1, c2, c3, c4, c5, c6⟩ := hck
  have hs1 := B1.out.size
  have hpb1 : pb < w1.heap.size := by omega
  clear hcs hok2
  go_upto_region 15 with fail
  have w1x : IntKind.i64.wrap (s.now - plast p) = s.now - plast p := by have := HK.out.2.1; have := HK.out.2.2; rw [IntKind.wrap_i64]; simp only [plast]; omega
  have hlk := HK.out.1
  obtain ⟨hwz, hl0, hl1, hn1⟩ := lookE_zero hlk
  have hle := (winE_zero hwz).2.2.2
  have hsum : sumsE ((pvals p).length : Int) (s1 (pvals p)) (s2 (pvals p)) = 0 := sums_ok _ hle
  have hn2 : (1 : Int) ≤ ((pvals p).length : Int) := by have : 1 ≤ (pvals p).length := hn1; omega
  have HLV := Lib.hid (show ∀ W, Below w1.heap.size w1 W → Calls Tryz.prog 63 #[psl p, .int .i64 (cfl s.c), .int .i64 (s.now - plast p)] W fun e w' => e = .returned (.int .i64 (plv (cfl s.c) s.now p.1)) ∧ Below W.heap.size W w' from fun W hW =>
    rlevel_ok (cfl s.c) (s.now - plast p) p.2.1 p.2.2 w.heap.size (pvals p).length (pvals p) rfl hle hn1 hl0 hl1 _ _ rfl rfl _ (lvV_nat hsum hn2 hl0 hl1).symm HK.out.2.1 (by have := HK.out.2.2; simp only [plast]; omega) OK.out.2.1 OK.out.2.2.1 W (OK.out.1.below hW hs1) (Nat.le_trans hs1 hW.size))
  have HB1 := Lib.hid (HB.out.below B1.out hbl)
  have HS := Lib.hid (show ∀ w', Below w1.heap.size w1 w' → (Below w1.heap.size w1 w' ∧ w'.cell? ⟨b, 7, none⟩ = some (.slice (some ⟨pb, off, none⟩) pn pc) ∧ w'.cell? ⟨b, 4, none⟩ = some (.int .i64 (cfl s.c)) ∧ w'.cell? ⟨b, 5, none⟩ = some (.int .i64 s.now) ∧ w'.cell? ⟨pb, off + k * 7 + 5, none⟩ = some (psl p) ∧ w'.cell? ⟨pb, off + k * 7 + 6, none⟩ = some (.int .i64 (plast p)))
    from fun w' h => ⟨h, (HB1.out.below h (by omega)).cell 7, (HB1.out.below h (by omega)).cell 4, (HB1.out.below h (by omega)).cell 5, (h.cell (p := ⟨pb, off + k * 7 + 5, none⟩) hpb1).trans CK.out.2.2.2.2.2.1, (h.cell (p := ⟨pb, off + k * 7 + 6, none⟩) hpb1).trans CK.out.2.2.2.2.2.2⟩)
  clear c0 c1 c2 c3 c4 c5 c6 hlk hwz hle hsum
  go_region_held3 (fun w' => Below w1.heap.size w1 w' ∧ w'.cell? ⟨b, 7, none⟩ = some (.slice (some ⟨pb, off, none⟩) pn pc) ∧ w'.cell? ⟨b, 4, none⟩ = some (.int .i64 (cfl s.c)) ∧ w'.cell? ⟨b, 5, none⟩ = some (.int .i64 s.now) ∧ w'.cell? ⟨pb, off + k * 7 + 5, none⟩ = some (psl p) ∧ w'.cell? ⟨pb, off + k * 7 + 6, none⟩ = some (.int .i64 (plast p)))
    ((refine HS.out _ ?_; repeat (first | (with_reducible exact hL3) | (with_reducible exact Below.refl _ _) | (with_reducible refine Below.al5 ?_) | (with_reducible refine Below.drew ?_))))
    ((go_at_call 63; (with_reducible refine (HLV.out _ ?ia).mono ?_); (case ia => repeat (first | (with_reducible exact Below.refl _ _) | (with_reducible refine Below.al5 ?_) | (with_reducible refine Below.drew ?_))); rintro e' w3 ⟨rfl, hb3⟩; have hL3 : Below w1.heap.size w1 w3 := Below.thru5 (by repeat (first | (with_reducible exact Below.refl _ _) | (with_reducible refine Below.al5 ?_) | (with_reducible refine Below.drew ?_))) hb3))
  all_goals
    have EV := Lib.hid (B1.out.trans (hL3.mono hs1))
    clear hL3 hb3
    go_wp2
    refine bodyPost_ret (v := .tuple #[.int .i64 (plv (cfl s.c) s.now p.1), .int .i64 0]) (by simp [results, Tryz.results23, go_sem]) rfl ⟨rfl, EV.out⟩
theorem rlv_core (hb : Blk w b 36 (rnodeCs s.c s.now s.drops (.slice A pn pc) sv)) (hp : Peers w w.heap.size A pn l) (hm : l.map Prod.fst = s.D) (hg : NGood s) (id : ByteArray) :
    Calls Tryz.prog 23 #[.pointer (some ⟨b, 0, none⟩), .string id] w (LvIs (s.lv id) (lvEr s.D id) w) := by
  have hl : l.length = s.D.length := by rw [← hm, List.length_map]
  have hn : pn ≤ maxLen := by have := hg.ps.six; have := hp.len; unfold maxLen; omega
  have hget : ∀ j, (hj : j < l.length) → (s.D[j]'(by omega)) = (l[j]'hj).1 := fun j hj => by simp only [← hm, List.getElem_map]
  unfold NSt.lv lvOf lvEr
  rw [fnd_idx]
  cases hi : idxOf s.D id with
  | none =>
    have hno := idx_none hi
    exact rlv_none hb hp hn id (fun j hj e => hno j (by omega) (by rw [hget j hj]; exact e))
  | some k =>
    obtain ⟨hk, h1, h2⟩ := idx_some hi
    have hkl : k < l.length := by omega
    have e : s.D[k]? = some (l[k]'hkl).1 := by rw [List.getElem?_eq_getElem hk, hget k hkl]
    show Calls _ _ _ _ (LvIs (match s.D[k]? with | some d => plv (cfl s.c) s.now d | none => 0) (match s.D[k]? with | some _ => 0 | none => 4) w)
    rw [e]
    exact rlv_some hb hp hn id k hkl (by rw [hget k hkl] at h1; exact h1) (fun j hj hjk e => h2 j (by omega) hjk (by rw [hget j hj]; exact e)) (by rw [← hget k hkl]; exact hg.pl _ (List.getElem_mem hk)) hg.now0 hg.now1
end
end Go.Proofs.YtcikljcjhijjdaaGreat

namespace Go.Proofs.YtcikljcjhijjdaaGreat
open Go.RowKit Go.Lib
set_option linter.unusedSimpArgs false
set_option linter.unusedVariables false

set_option maxHeartbeats 2000000 in
set_option maxRecDepth 100000 in
theorem rnotes_run (b g cap n pn cp : Nat) (A : Option Addr) (c : CfgD) (now drops : Int) (S : List TriD) (f : ByteArray → Int) (hn8 : n ≤ 8) (hbg : b ≠ g) (w : World) (hb : Blk w b 36 (rnodeCs c now drops (.slice A pn cp) (.slice (some ⟨g, 0, none⟩) n cap)))
    (hs : Row3 58 w g cap n S) (hf : ∀ W id, Kept (· = g) w W → ∃ er, Calls Tryz.prog 23 #[.pointer (some ⟨b, 0, none⟩), .string id] W (LvIs (f id) er W)) :
    Calls Tryz.prog 42 #[.pointer (some ⟨b, 0, none⟩)] w (ToldIs g 58 cap n (subsTo f S) (notesOf f S) w) := by
  obtain ⟨i0, hi, hz0, hz1, hz2⟩ := info_parts note_info
  have HB := Lib.hid hb
  have HS := Lib.hid hs
  have HF := Lib.hid hf
  have HN := Lib.hid hs.1
  have hgl := hs.lt
  have hbl := hb.lt
  have hcap := hs.2.2.1
  have hncap := hs.2.1
  unfold maxLen at hcap
  have b8 := hb.cell 8
  simp [rnodeCs] at b8
  clear hb hs hf
  go_enter Tryz.func42, Tryz.ntmps42
  go_wp2_with fail
  go_loopw [3, 14] (fun v iv wr => ∃ k : Nat, k ≤ n ∧ iv = .int .i64 (k : Int) ∧ TRel f S g cap n w k v wr) (fun _ iv _ => n - (RowKit.intOf iv).toNat)
  case atStart => exact ⟨0, by omega, rfl, TRel.start f HS.out⟩
  case round =>
    obtain ⟨k, hk, rfl, hrel⟩ := hrel
    obtain ⟨wo, rfl⟩ : ∃ wo, wo = wr := ⟨_, rfl⟩
    have RL0 := Lib.hid hrel
    clear hrel b8
    obtain ⟨Av, cv, rfl⟩ := ownsRow_len RL0.out.1
    by_cases hlt : k < n
    · have hkS : k < S.length := by rw [HN.out]; exact hlt
      have hkM : k < (subsMid f S k).length := by rw [subsMid_len]; exact hkS
      have hcs := RL0.out.2.1.cells k hkM
      rw [subsMid_at f S k hkS hkM] at hcs
      have hgl0 := RL0.out.2.1.lt
      have HSM := Lib.hid (fun w1 (h0 : Below wo.heap.size wo w1) he => (RL0.out.below h0).same hkS he)
      have HNW := Lib.hid (fun w0 v' w1 (h0 : Below wo.heap.size wo w0) he m hm ho hb => TRel.new (w1 := w1) (v' := v') (RL0.out.below h0) hgl hkS he m hm ho hb)
      have HMK := Lib.hid (show markOf f (S[k]'hkS) = decide ((S[k]'hkS).2.1 ≤ f (S[k]'hkS).1) from rfl)
      generalize S[k]'hkS = s at *
      obtain ⟨sid, sth, son⟩ := s
      obtain ⟨c0, c1, c2⟩ := hcs
      have EX := Lib.hid ((Env.start wo).lay (tcells (sid, sth, son)).toArray 58)
      simp only [tcells] at EX
      have RL := Lib.hid (RL0.out.below EX.out.bel)
      obtain ⟨er, hlv⟩ := HF.out _ sid RL.out.2.2
      have HLV := Lib.hid hlv
      clear hlv
      go_wp2_with fail
      refine HLV.out.mono ?_
      rintro e' w1 ⟨rfl, hb1⟩
      have E1 := Lib.hid (EX.out.below hb1)
      have RL1 := Lib.hid (RL.out.below hb1)
      have x0 := E1.out.hd.cell 0
      have x1 := E1.out.hd.cell 1
      have x2 := E1.out.hd.cell 2
      have hx := E1.out.hd.lt
      simp at x0 x1 x2
      have hb1s := E1.out.bel.size
      have hglt : g < w1.heap.size := by omega
      have fz := RL1.out.2.1.frozen (k * 3 + 2)
      have d2 := (E1.out.bel.cell (p := ⟨g, k * 3 + 2, none⟩) hgl0).trans c2
      have HB1 := Lib.hid (RL1.out.2.2.blk HB.out hbg)
      have b8 := HB1.out.cell 8
      have hbl1 := HB1.out.lt
      simp [rnodeCs] at b8
      clear hb1 c0 c1 c2
      cases hmk : decide (sth ≤ f sid) <;> cases son
      case false.false | true.true =>
        have KEEP := Lib.hid (HSM.out w1 E1.out.bel (by rw [HMK.out, hmk]))
        have hle := hmk
        simp only [decide_eq_false_iff_not, decide_eq_true_eq] at hle
        clear hmk
        go_wp2
        exact ⟨⟨k + 1, by omega, by simp, KEEP.out⟩, by simp [RowKit.intOf]; omega⟩
      case false.true =>
        have HNX := Lib.hid (fun v' w9 ho hb => HNW.out w1 v' w9 E1.out.bel (by rw [HMK.out, hmk]; decide) false (by rw [HMK.out, hmk]) ho hb)
        have hle := hmk
        clear hle
        have e0 : (w1.setCell ⟨g, k * 3 + 2, none⟩ (.bool false)).cell? ⟨wo.heap.size, 0, none⟩ = some (.string sid) := (World.cell?_setCell_other _ _ _ _ (by intro h2; simp only [Addr.mk.injEq] at h2; omega)).trans x0
        have e1 : (w1.setCell ⟨g, k * 3 + 2, none⟩ (.bool false)).cell? ⟨wo.heap.size, 1, none⟩ = some (.int .i64 sth) := (World.cell?_setCell_other _ _ _ _ (by intro h2; simp only [Addr.mk.injEq] at h2; omega)).trans x1
        have OWN := Lib.hid (ownsRow_setCell RL1.out.1 (a := ⟨g, k * 3 + 2, none⟩) hgl (.bool false))
        have hwz := RL1.out.2.2.size
        have hsz2 : w1.heap.size ≤ (w1.setCell ⟨g, k * 3 + 2, none⟩ (.bool false)).heap.size := by simp [World.setCell]
        have hL := notesOf_le f (S.take k)
        have hL2 : (S.take k).length ≤ 8 := by rw [List.length_take]; omega
        have HRD := Lib.hid (show Reads ((w1.setCell ⟨g, k * 3 + 2, none⟩ (.bool false)).alloc (.cells #[.string sid, .int .i64 sth, .bool false] 52)) (w1.heap.size + 1) 3 (some ⟨w1.heap.size, 0, none⟩) 1 (cells3 [(sid, sth, false)]) by
          have e : (w1.setCell ⟨g, k * 3 + 2, none⟩ (.bool false)).heap.size = w1.heap.size := by simp [World.setCell]
          have := reads_tri (w1.setCell ⟨g, k * 3 + 2, none⟩ (.bool false)) 52 (sid, sth, false)
          rw [e] at this
          exact this)
        go_wp2_with (at_builtin; refine wpList_appN _ rfl _ _ 40 rfl w.heap.size 52 i0 _ 3 32 Tryz.underlying40 hi hz0 hz1 hz2 rfl (by decide) _ _ _ rfl (OWN.out.alloc _) _ _ 1 _ _ rfl HRD.out (oneCell_3 [(sid, sth, false)]) ?c1 ?c2 ?c3 ?_)
        case c1 => unfold maxLen; omega
        case c2 => omega
        case c3 => simp; omega
        intro v9 w9 hown9 hb9
        obtain ⟨A9, c9, rfl⟩ := ownsRow_len hown9
        have KEEP := Lib.hid (HNX.out _ w9 hown9 (((Below.refl _ _).alloc (by omega) _).trans hb9))
        clear hown9 hb9 e0 e1
        go_wp2
        exact ⟨⟨k + 1, by omega, by simp, KEEP.out⟩, by simp [RowKit.intOf]; omega⟩
      case true.false =>
        have HNX := Lib.hid (fun v' w9 ho hb => HNW.out w1 v' w9 E1.out.bel (by rw [HMK.out, hmk]; decide) true (by rw [HMK.out, hmk]) ho hb)
        have hle := hmk
        simp only [decide_eq_true_eq] at hle
        clear hmk
        have e0 : (w1.setCell ⟨g, k * 3 + 2, none⟩ (.bool true)).cell? ⟨wo.heap.size, 0, none⟩ = some (.string sid) := (World.cell?_setCell_other _ _ _ _ (by intro h2; simp only [Addr.mk.injEq] at h2; omega)).trans x0
        have e1 : (w1.setCell ⟨g, k * 3 + 2, none⟩ (.bool true)).cell? ⟨wo.heap.size, 1, none⟩ = some (.int .i64 sth) := (World.cell?_setCell_other _ _ _ _ (by intro h2; simp only [Addr.mk.injEq] at h2; omega)).trans x1
        have OWN := Lib.hid (ownsRow_setCell RL1.out.1 (a := ⟨g, k * 3 + 2, none⟩) hgl (.bool true))
        have hwz := RL1.out.2.2.size
        have hsz2 : w1.heap.size ≤ (w1.setCell ⟨g, k * 3 + 2, none⟩ (.bool true)).heap.size := by simp [World.setCell]
        have hL := notesOf_le f (S.take k)
        have hL2 : (S.take k).length ≤ 8 := by rw [List.length_take]; omega
        have HRD := Lib.hid (show Reads ((w1.setCell ⟨g, k * 3 + 2, none⟩ (.bool true)).alloc (.cells #[.string sid, .int .i64 sth, .bool true] 52)) (w1.heap.size + 1) 3 (some ⟨w1.heap.size, 0, none⟩) 1 (cells3 [(sid, sth, true)]) by
          have e : (w1.setCell ⟨g, k * 3 + 2, none⟩ (.bool true)).heap.size = w1.heap.size := by simp [World.setCell]
          have := reads_tri (w1.setCell ⟨g, k * 3 + 2, none⟩ (.bool true)) 52 (sid, sth, true)
          rw [e] at this
          exact this)
        go_wp2_with (at_builtin; refine wpList_appN _ rfl _ _ 40 rfl w.heap.size 52 i0 _ 3 32 Tryz.underlying40 hi hz0 hz1 hz2 rfl (by decide) _ _ _ rfl (OWN.out.alloc _) _ _ 1 _ _ rfl HRD.out (oneCell_3 [(sid, sth, true)]) ?c1 ?c2 ?c3 ?_)
        case c1 => unfold maxLen; omega
        case c2 => omega
        case c3 => simp; omega
        intro v9 w9 hown9 hb9
        obtain ⟨A9, c9, rfl⟩ := ownsRow_len hown9
        have KEEP := Lib.hid (HNX.out _ w9 hown9 (((Below.refl _ _).alloc (by omega) _).trans hb9))
        clear hown9 hb9 e0 e1
        go_wp2
        exact ⟨⟨k + 1, by omega, by simp, KEEP.out⟩, by simp [RowKit.intOf]; omega⟩
    · have hkn : k = n := by omega
      subst hkn
      have hall : S.take k = S := List.take_of_length_le (by rw [HN.out]; omega)
      have hend := RL0.out
      unfold TRel at hend
      rw [hall, subsMid_all f S k (by rw [HN.out]; omega)] at hend
      have HE := Lib.hid hend
      rw [hall]
      clear hend hall
      go_wp2
      go_ret
      exact ⟨Av, cv, rfl, HE.out.1, HE.out.2.1, HE.out.2.2⟩

section
variable {X : Nat → Prop} {w : World} {b pn pc : Nat} {A : Option Addr} {sv : Value} {l : List PeerT} {s : NSt}
/-- the answer of Notes -/
def RTellIs (X : Nat → Prop) (b : Nat) (A : Option Addr) (pn pc : Nat) (sv : Value) (l : List PeerT) (s : NSt) (w : World) (e : Ending) (w' : World) : Prop :=
  ∃ A' c', e = .returned (.slice A' s.notes.length c') ∧ w'.ownsRow w.heap.size 52 3 (.slice A' s.notes.length c') s.notes.length (cells3 s.notes) ∧ RNodeIs X w' b A pn pc sv l s.tell ∧ Kept X w w'

set_option maxHeartbeats 400000 in
set_option maxRecDepth 100000 in
theorem rnotes_none (b : Nat) (A : Option Addr) (c : CfgD) (now drops : Int) (w : World) (hb : Blk w b 36 (rnodeCs c now drops (.slice A pn pc) (.slice none 0 0))) :
    Calls Tryz.prog 42 #[.pointer (some ⟨b, 0, none⟩)] w fun e w' => e = .returned (.slice none 0 0) ∧ w = w' := by
  have hbl := hb.lt
  have b8 := hb.cell 8
  simp [rnodeCs] at b8
  clear hb
  go_enter Tryz.func42, Tryz.ntmps42
  go_wp2_with fail
  go_loop [3, 14] (fun v iv => v = .slice none 0 0 ∧ iv = .int .i64 0) (fun _ iv => 0)
  case atStart => exact ⟨rfl, rfl⟩
  case round =>
    obtain ⟨rfl, rfl⟩ := hrel
    go_wp2
    go_ret
    exact ⟨rfl, rfl⟩
theorem rnotes_any (h : RNodeIs X w b A pn pc sv l s) (hg : NGood s) :
    Calls Tryz.prog 42 #[.pointer (some ⟨b, 0, none⟩)] w (RTellIs X b A pn pc sv l s w) := by
  rcases h.subs with ⟨hsv, hS⟩ | ⟨g, cap, n, hsv, hr⟩
  · subst hsv
    refine (rnotes_none b A s.c s.now s.drops w h.blk).mono ?_
    rintro e w' ⟨rfl, rfl⟩
    have e1 : s.notes = [] := by unfold NSt.notes; rw [hS]; rfl
    have e2 : s.tell = s := by unfold NSt.tell; rw [hS]; show ({ s with S := [] } : NSt) = s; rw [← hS]
    rw [show RTellIs X b A pn pc (.slice none 0 0) l s w _ w = ∃ A' c', _ from rfl, e1, e2]
    exact ⟨none, 0, rfl, World.ownsRow_nil _ _ _ _, h, Kept.refl _ _⟩
  · subst hsv
    have hbg : b ≠ g := fun e => (h.xs g rfl).2 e.symm
    have hn : n ≤ 8 := by rw [← hr.1]; exact hg.eight
    refine (rnotes_run b g cap n pn pc A s.c s.now s.drops s.S s.lv hn hbg w h.blk hr ?_).mono ?_
    · intro W id hk
      exact ⟨_, rlv_core (hk.blk h.blk hbg) ((hk.peers h.peers (h.far.mono fun k hy hx => hy.2.2 (by simp only [Value.ownBlock]; rw [hx]))).more hk.size) h.map hg id⟩
    · rintro e w' ⟨A', c', rfl, h1, h2, h3⟩
      exact ⟨A', c', rfl, h1, h.mark h3 h2, h3.mono fun k hk => .inl (hk ▸ (h.xs g rfl).1)⟩
end
end Go.Proofs.YtcikljcjhijjdaaGreat
