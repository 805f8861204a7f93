/- peers.Add and peers.Drop, walked. -/
import Derived.Test.YtkgekhabafjpiaaM25
import Derived.Test.YtkgekhabafjpiaaM35
import Derived.Test.YtkgekhabafjpiaaM37
import Derived.Deep.RegionHeld3
namespace Go.Proofs.Ytkgekhabafjpiaa
open Go.RowKit Go.Lib
set_option linter.unusedSimpArgs false
set_option linter.unusedVariables false

/-- what Add, Drop and their references answer where nothing is changed -/
def AddNo (e : Int) (w : World) (x : Ending) (w' : World) : Prop := x = .returned (.tuple #[.slice none 0 0, .int .i64 e]) ∧ Below w.heap.size w w'
/-- what they answer where something is -/
def AddIs (A0 : Option Addr) (l0 : List PeerT) (D : List PeerD) (n : Nat) (w : World) (x : Ending) (w' : World) : Prop :=
  ∃ A c l', x = .returned (.tuple #[.slice A n c, .int .i64 0]) ∧ l'.map Prod.fst = D ∧ Peers w' w'.heap.size A n l' ∧ Below w.heap.size w w' ∧ (n ≤ c ∧ c ≤ maxLen) ∧ KeepsP w A0 l0 A l'
/-- a peer that is watched from now on -/
def newP (id : ByteArray) (size first now : Int) : PeerD := (id, (0, 0, 0), size, [first], now)
def ArgBad (size first now : Int) : Prop := size < 1 ∨ 64 < size ∨ (1 ≤ size ∧ size ≤ 64 ∧ wi first 0 16777216 = false) ∨ (1 ≤ size ∧ size ≤ 64 ∧ wi first 0 16777216 = true ∧ now < 0) ∨ (1 ≤ size ∧ size ≤ 64 ∧ wi first 0 16777216 = true ∧ 0 ≤ now ∧ 1073741824 < now)
theorem cellsP_takeL : ∀ (l : List PeerT) (i : Nat), (cellsP l).take (i * 7) = cellsP (l.take i)
  | [], i => by simp [cellsP]
  | p :: l, 0 => by simp [cellsP]
  | p :: l, i + 1 => by
    simp only [cellsP, List.take_succ_cons]
    rw [List.take_append, pcells_len, List.take_of_length_le (by rw [pcells_len]; omega), show (i + 1) * 7 - 7 = i * 7 by omega, cellsP_takeL l i]
theorem cellsP_dropL : ∀ (l : List PeerT) (i : Nat), (cellsP l).drop (i * 7) = cellsP (l.drop i)
  | [], i => by simp [cellsP]
  | p :: l, 0 => by simp [cellsP]
  | p :: l, i + 1 => by
    simp only [cellsP, List.drop_succ_cons]
    rw [List.drop_append, pcells_len, List.drop_of_length_le (by rw [pcells_len]; omega), show (i + 1) * 7 - 7 = i * 7 by omega, cellsP_dropL l i]
    rfl
/-- peers with one put in -/
def InsB (w4 : World) (n i0 : Nat) (pn : PeerT) (l7 : List PeerT) (e : Ending) (w9 : World) : Prop :=
  ∃ A9 c9, e = .returned (.slice A9 (n + 1) c9) ∧ w9.ownsRow w4.heap.size 53 7 (.slice A9 (n + 1) c9) (n + 1) (cellsP (l7.take i0 ++ pn :: l7.drop i0)) ∧ ValsOwn w4.heap.size w9 l7 ∧ Below w4.heap.size w4 w9
/-- a copy in blocks from b on -/
def CopyB (b : Nat) (l : List PeerT) (n : Nat) (w : World) (e : Ending) (w' : World) : Prop :=
  ∃ A c l', e = .returned (.slice A n c) ∧ l'.map Prod.fst = l.map Prod.fst ∧ w'.ownsRow b 53 7 (.slice A n c) n (cellsP l') ∧ ValsOwn b w' l' ∧ Below w.heap.size w w' ∧ ∀ k, (Value.slice A n c).ownBlock = some k → w.heap.size ≤ k ∧ k < w'.heap.size
/-- slices.Insert of one peer, wherever it goes -/
theorem insert_any (base n i vb : Nat) (A : Option Addr) (c : Nat) (xs vs : List Value) (hn : n ≤ 1000) (hi : i ≤ n) (hone : ∀ u ∈ xs, u.oneCell' = true) (honev : ∀ u ∈ vs, u.oneCell' = true) (hvl : vs.length = 7) (w : World)
    (hown : w.ownsRow base 53 7 (.slice A n c) n xs) (hv : Blk w vb 53 vs.toArray) (hne : (Value.slice A n c).ownBlock ≠ some vb) (hbase : base ≤ w.heap.size) :
    Calls Try.prog 38 #[.slice A n c, .int .i64 i, .slice (some ⟨vb, 0, none⟩) 1 1] w (Put1 A base (n + 1) (xs.take (i * 7) ++ (vs ++ xs.drop (i * 7))) w) := by
  have hxl := hown.1
  by_cases h : i = n
  · subst h
    have := insert_end base i vb A c xs vs hn honev w hown hv hvl hbase
    rwa [← show xs.take (i * 7) ++ (vs ++ xs.drop (i * 7)) = xs ++ vs by rw [List.take_of_length_le (by omega), List.drop_of_length_le (by omega), List.append_nil]] at this
  · obtain ⟨d, rfl⟩ : ∃ d, n = i + d := ⟨n - i, by omega⟩
    by_cases hr : i + d + 1 ≤ c
    · obtain ⟨g, c', hva, -⟩ := ownsRow_at hown (by omega)
      injection hva with hva hvb hvc
      subst hva hvc
      exact insert_room base g i d vb c xs vs (by omega) hr hone honev w hown hv hvl (fun e => hne (by rw [e]; rfl))
    · exact insert_grow base i d vb c A xs vs (by omega) hn hr hone honev w hown hv hvl hbase

set_option maxHeartbeats 1000000 in
set_option maxRecDepth 100000 in
theorem add_chk (A : Option Addr) (c B n : Nat) (l : List PeerT) (hm : n ≤ maxLen) (id : ByteArray) (hid : id.size ≤ maxLen) (size first now : Int) (w : World) (hp : Peers w B A n l) (hB : B ≤ w.heap.size) (e0 : Int) (he : peersE l = e0) (hz : e0 ≠ 0) :
    Calls Try.prog 19 #[.slice A n c, .string id, .int .i64 size, .int .i64 first, .int .i64 now] w (AddNo e0 w) := by
  have HP := Lib.hid hp
  have HBB := Lib.hid hB
  have HN := Lib.hid hp.len
  have E0 := Lib.hid (Env.start w)
  clear hp hB
  have HE := Lib.hid he
  clear he
  go_enter Try.func19, Try.ntmps19
  go_wp2_with fail
  refine (pchk_is A c B n l hm _ HE.out _ (HP.out.below E0.out.bel HBB.out) (Nat.le_trans HBB.out E0.out.bel.size)).mono ?_
  rintro e' w1 ⟨rfl, hb1⟩
  have E1 := Lib.hid (E0.out.below hb1)
  clear hb1
  go_wp2
  all_goals first
    | (exfalso; omega)
    | (refine bodyPost_ret (v := .tuple #[.slice none 0 0, .int .i64 e0]) (by simp [results, Try.results19, go_sem]) rfl ⟨rfl, E1.out.bel⟩)

set_option maxHeartbeats 1000000 in
set_option maxRecDepth 100000 in
theorem add_id (A : Option Addr) (c B n : Nat) (l : List PeerT) (hm : n ≤ maxLen) (id : ByteArray) (hid : id.size ≤ maxLen) (size first now : Int) (w : World) (hp : Peers w B A n l) (hB : B ≤ w.heap.size) (he : peersE l = 0) (hi : idB id = false) :
    Calls Try.prog 19 #[.slice A n c, .string id, .int .i64 size, .int .i64 first, .int .i64 now] w (AddNo 3 w) := by
  have HP := Lib.hid hp
  have HBB := Lib.hid hB
  have HN := Lib.hid hp.len
  have E0 := Lib.hid (Env.start w)
  clear hp hB
  have HE := Lib.hid he
  have HID := Lib.hid hi
  clear he hi
  go_enter Try.func19, Try.ntmps19
  go_wp2_with fail
  refine (pchk_is A c B n l hm _ HE.out _ (HP.out.below E0.out.bel HBB.out) (Nat.le_trans HBB.out E0.out.bel.size)).mono ?_
  rintro e' w1 ⟨rfl, hb1⟩
  have E1 := Lib.hid (E0.out.below hb1)
  clear hb1
  go_wp2_with fail
  refine (bid_any id hid _).mono ?_
  rw [HID.out]
  rintro e' w' ⟨rfl, rfl⟩
  go_wp2
  all_goals first
    | (exfalso; omega)
    | (refine bodyPost_ret (v := .tuple #[.slice none 0 0, .int .i64 3]) (by simp [results, Try.results19, go_sem]) rfl ⟨rfl, E1.out.bel⟩)

set_option maxHeartbeats 1000000 in
set_option maxRecDepth 100000 in
theorem add_arg (A : Option Addr) (c B n : Nat) (l : List PeerT) (hm : n ≤ maxLen) (id : ByteArray) (hid : id.size ≤ maxLen) (size first now : Int) (w : World) (hp : Peers w B A n l) (hB : B ≤ w.heap.size) (he : peersE l = 0) (hi : idB id = true) (hbad : ArgBad size first now) :
    Calls Try.prog 19 #[.slice A n c, .string id, .int .i64 size, .int .i64 first, .int .i64 now] w (AddNo 1 w) := by
  have HP := Lib.hid hp
  have HBB := Lib.hid hB
  have HN := Lib.hid hp.len
  have E0 := Lib.hid (Env.start w)
  clear hp hB
  have HE := Lib.hid he
  have HID := Lib.hid hi
  clear he hi
  obtain ⟨b, hb⟩ : ∃ b, wi first 0 16777216 = b := ⟨_, rfl⟩
  have HV := Lib.hid hb
  unfold ArgBad at hbad
  rw [hb] at hbad
  clear hb
  rcases hbad with h | h | ⟨h1, h2, hv⟩ | ⟨h1, h2, hv, h⟩ | ⟨h1, h2, hv, h, h'⟩
  all_goals
    try subst hv
    go_enter Try.func19, Try.ntmps19
    go_wp2_with fail
    refine (pchk_is A c B n l hm _ HE.out _ (HP.out.below E0.out.bel HBB.out) (Nat.le_trans HBB.out E0.out.bel.size)).mono ?_
    rintro e' w1 ⟨rfl, hb1⟩
    have E1 := Lib.hid (E0.out.below hb1)
    clear hb1
    go_wp2_with fail
    refine (bid_any id hid _).mono ?_
    rw [HID.out]
    rintro e' w' ⟨rfl, rfl⟩
    go_wp2_with (go_at_call 35; (with_reducible refine (wval_is first _ HV.out _).mono ?_); rintro e' w' ⟨rfl, rfl⟩)
    all_goals first
      | (exfalso; omega)
      | (refine bodyPost_ret (v := .tuple #[.slice none 0 0, .int .i64 1]) (by simp [results, Try.results19, go_sem]) rfl ⟨rfl, E1.out.bel⟩)

set_option maxHeartbeats 1000000 in
set_option maxRecDepth 100000 in
theorem add_there (A : Option Addr) (c B n : Nat) (l : List PeerT) (hm : n ≤ maxLen) (id : ByteArray) (hid : id.size ≤ maxLen) (size first now : Int) (w : World) (hp : Peers w B A n l) (hB : B ≤ w.heap.size) (he : peersE l = 0) (hi : idB id = true) (hs0 : 1 ≤ size) (hs1 : size ≤ 64) (hv : wi first 0 16777216 = true) (hn0 : 0 ≤ now) (hn1 : now ≤ 1073741824) (k : Nat) (hk : k < l.length) (hidk : pid (l[k]'hk) = id) :
    Calls Try.prog 19 #[.slice A n c, .string id, .int .i64 size, .int .i64 first, .int .i64 now] w (AddNo 5 w) := by
  obtain ⟨h6, hgood, hasc⟩ := peersE_zero he
  have hn6 : n ≤ 6 := by rw [← hp.len]; exact h6
  have hfi := find_some A c B n l hasc k hk (by omega)
  rw [hidk] at hfi
  have HF := Lib.hid hfi
  clear hfi hgood hasc hidk
  have HP := Lib.hid hp
  have HBB := Lib.hid hB
  have HN := Lib.hid hp.len
  have E0 := Lib.hid (Env.start w)
  clear hp hB
  have HE := Lib.hid he
  have HID := Lib.hid hi
  have HV := Lib.hid hv
  clear he hi hv
  go_enter Try.func19, Try.ntmps19
  go_wp2_with fail
  refine (pchk_is A c B n l hm _ HE.out _ (HP.out.below E0.out.bel HBB.out) (Nat.le_trans HBB.out E0.out.bel.size)).mono ?_
  rintro e' w1 ⟨rfl, hb1⟩
  have E1 := Lib.hid (E0.out.below hb1)
  clear hb1
  go_wp2_with fail
  refine (bid_any id hid _).mono ?_
  rw [HID.out]
  rintro e' w' ⟨rfl, rfl⟩
  go_wp2_with (first | (go_at_call 35; (with_reducible refine (wval_is first _ HV.out _).mono ?_); rintro e' w' ⟨rfl, rfl⟩) | fail)
  refine (HF.out _ (HP.out.below E1.out.bel HBB.out) (Nat.le_trans HBB.out E1.out.bel.size)).mono ?_
  rintro e' w3 ⟨rfl, hb3⟩
  have E3 := Lib.hid (E1.out.below hb3)
  clear hb3
  go_wp2
  all_goals first
    | (exfalso; omega)
    | (refine bodyPost_ret (v := .tuple #[.slice none 0 0, .int .i64 5]) (by simp [results, Try.results19, go_sem]) rfl ⟨rfl, E3.out.bel⟩)

set_option maxHeartbeats 1000000 in
set_option maxRecDepth 100000 in
theorem add_full (A : Option Addr) (c B n : Nat) (l : List PeerT) (hm : n ≤ maxLen) (id : ByteArray) (hid : id.size ≤ maxLen) (size first now : Int) (w : World) (hp : Peers w B A n l) (hB : B ≤ w.heap.size) (he : peersE l = 0) (hi : idB id = true) (hs0 : 1 ≤ size) (hs1 : size ≤ 64) (hv : wi first 0 16777216 = true) (hn0 : 0 ≤ now) (hn1 : now ≤ 1073741824) (hno : ∀ j, (hj : j < l.length) → pid (l[j]'hj) ≠ id) (h6n : n = 6) :
    Calls Try.prog 19 #[.slice A n c, .string id, .int .i64 size, .int .i64 first, .int .i64 now] w (AddNo 10 w) := by
  obtain ⟨h6, hgood, hasc⟩ := peersE_zero he
  have hn6 : n ≤ 6 := by rw [← hp.len]; exact h6
  obtain ⟨i0, hi0, -, -, hfi⟩ := find_none A c B n l hasc id hno hp.len (by omega)
  have HF := Lib.hid hfi
  clear hfi hgood hasc hno
  have h6a : n ≤ 6 := by omega
  have h6b : ((n : Int) == 6) = true := by rw [beq_iff_eq]; omega
  clear h6n
  have HP := Lib.hid hp
  have HBB := Lib.hid hB
  have HN := Lib.hid hp.len
  have E0 := Lib.hid (Env.start w)
  clear hp hB
  have HE := Lib.hid he
  have HID := Lib.hid hi
  have HV := Lib.hid hv
  clear he hi hv
  go_enter Try.func19, Try.ntmps19
  go_wp2_with fail
  refine (pchk_is A c B n l hm _ HE.out _ (HP.out.below E0.out.bel HBB.out) (Nat.le_trans HBB.out E0.out.bel.size)).mono ?_
  rintro e' w1 ⟨rfl, hb1⟩
  have E1 := Lib.hid (E0.out.below hb1)
  clear hb1
  go_wp2_with fail
  refine (bid_any id hid _).mono ?_
  rw [HID.out]
  rintro e' w' ⟨rfl, rfl⟩
  go_wp2_with (go_at_call 35; (with_reducible refine (wval_is first _ HV.out _).mono ?_); rintro e' w' ⟨rfl, rfl⟩)
  refine (HF.out _ (HP.out.below E1.out.bel HBB.out) (Nat.le_trans HBB.out E1.out.bel.size)).mono ?_
  rintro e' w3 ⟨rfl, hb3⟩
  have E3 := Lib.hid (E1.out.below hb3)
  clear hb3
  go_wp2
  all_goals first
    | (exfalso; omega)
    | (refine bodyPost_ret (v := .tuple #[.slice none 0 0, .int .i64 10]) (by simp [results, Try.results19, go_sem]) rfl ⟨rfl, E3.out.bel⟩)



































































































































end Go.Proofs.Ytkgekhabafjpiaa
