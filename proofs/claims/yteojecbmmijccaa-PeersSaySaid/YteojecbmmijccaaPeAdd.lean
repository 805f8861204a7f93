/- peers.Add and peers.Drop, walked. -/
import Derived.Test.YteojecbmmijccaaSlJ
import Derived.Test.YteojecbmmijccaaPeRow
import Derived.Test.YteojecbmmijccaaPeOrd
import Derived.Deep.RegionHeld3
namespace Go.Proofs.Yteojecbmmijccaa
open Go.RowKit Go.Lib
set_option linter.unusedSimpArgs false
set_option linter.unusedVariables false

/-- what Add, Drop and their references answer where nothing is changed -/
def AddNo (e : Int) (w : World) (x : Ending) (w' : World) : Prop := x = .returned (.tuple #[.slice none 0 0, .int .i64 e]) ∧ Below w.heap.size w w'
/-- what they answer where something is -/
def AddIs (A0 : Option Addr) (l0 : List PeerT) (D : List PeerD) (n : Nat) (w : World) (x : Ending) (w' : World) : Prop :=
  ∃ A c l', x = .returned (.tuple #[.slice A n c, .int .i64 0]) ∧ l'.map Prod.fst = D ∧ Peers w' w'.heap.size A n l' ∧ Below w.heap.size w w' ∧ (n ≤ c ∧ c ≤ maxLen) ∧ KeepsP w A0 l0 A l'
/-- a peer that is watched from now on -/
def newP (id : ByteArray) (size first now : Int) : PeerD := (id, (0, 0, 0), size, [first], now)
def ArgBad (size first now : Int) : Prop := size < 1 ∨ 64 < size ∨ (1 ≤ size ∧ size ≤ 64 ∧ wi first 0 16777216 = false) ∨ (1 ≤ size ∧ size ≤ 64 ∧ wi first 0 16777216 = true ∧ now < 0) ∨ (1 ≤ size ∧ size ≤ 64 ∧ wi first 0 16777216 = true ∧ 0 ≤ now ∧ 1073741824 < now)
theorem cellsP_takeL : ∀ (l : List PeerT) (i : Nat), (cellsP l).take (i * 7) = cellsP (l.take i)
  | [], i => by simp [cellsP]
  | p :: l, 0 => by simp [cellsP]
  | p :: l, i + 1 => by
    simp only [cellsP, List.take_succ_cons]
    rw [List.take_append, pcells_len, List.take_of_length_le (by rw [pcells_len]; omega), show (i + 1) * 7 - 7 = i * 7 by omega, cellsP_takeL l i]
theorem cellsP_dropL : ∀ (l : List PeerT) (i : Nat), (cellsP l).drop (i * 7) = cellsP (l.drop i)
  | [], i => by simp [cellsP]
  | p :: l, 0 => by simp [cellsP]
  | p :: l, i + 1 => by
    simp only [cellsP, List.drop_succ_cons]
    rw [List.drop_append, pcells_len, List.drop_of_length_le (by rw [pcells_len]; omega), show (i + 1) * 7 - 7 = i * 7 by omega, cellsP_dropL l i]
    rfl
/-- peers with one put in -/
def InsB (w4 : World) (n i0 : Nat) (pn : PeerT) (l7 : List PeerT) (e : Ending) (w9 : World) : Prop :=
  ∃ A9 c9, e = .returned (.slice A9 (n + 1) c9) ∧ w9.ownsRow w4.heap.size 34 7 (.slice A9 (n + 1) c9) (n + 1) (cellsP (l7.take i0 ++ pn :: l7.drop i0)) ∧ ValsOwn w4.heap.size w9 l7 ∧ Below w4.heap.size w4 w9
/-- a copy in blocks from b on -/
def CopyB (b : Nat) (l : List PeerT) (n : Nat) (w : World) (e : Ending) (w' : World) : Prop :=
  ∃ A c l', e = .returned (.slice A n c) ∧ l'.map Prod.fst = l.map Prod.fst ∧ w'.ownsRow b 34 7 (.slice A n c) n (cellsP l') ∧ ValsOwn b w' l' ∧ Below w.heap.size w w' ∧ ∀ k, (Value.slice A n c).ownBlock = some k → w.heap.size ≤ k ∧ k < w'.heap.size
/-- slices.Insert of one peer, wherever it goes -/
theorem insert_any (base n i vb : Nat) (A : Option Addr) (c : Nat) (xs vs : List Value) (hn : n ≤ 1000) (hi : i ≤ n) (hone : ∀ u ∈ xs, u.oneCell' = true) (honev : ∀ u ∈ vs, u.oneCell' = true) (hvl : vs.length = 7) (w : World)
    (hown : w.ownsRow base 34 7 (.slice A n c) n xs) (hv : Blk w vb 34 vs.toArray) (hne : (Value.slice A n c).ownBlock ≠ some vb) (hbase : base ≤ w.heap.size) :
    Calls Try.prog 14 #[.slice A n c, .int .i64 i, .slice (some ⟨vb, 0, none⟩) 1 1] w (Put1 A base (n + 1) (xs.take (i * 7) ++ (vs ++ xs.drop (i * 7))) w) := by
  have hxl := hown.1
  by_cases h : i = n
  · subst h
    have := insert_end base i vb A c xs vs hn honev w hown hv hvl hbase
    rwa [← show xs.take (i * 7) ++ (vs ++ xs.drop (i * 7)) = xs ++ vs by rw [List.take_of_length_le (by omega), List.drop_of_length_le (by omega), List.append_nil]] at this
  · obtain ⟨d, rfl⟩ : ∃ d, n = i + d := ⟨n - i, by omega⟩
    by_cases hr : i + d + 1 ≤ c
    · obtain ⟨g, c', hva, -⟩ := ownsRow_at hown (by omega)
      injection hva with hva hvb hvc
      subst hva hvc
      exact insert_room base g i d vb c xs vs (by omega) hr hone honev w hown hv hvl (fun e => hne (by rw [e]; rfl))
    · exact insert_grow base i d vb c A xs vs (by omega) hn hr hone honev w hown hv hvl hbase

set_option maxHeartbeats 1000000 in
set_option maxRecDepth 100000 in
theorem add_chk (A : Option Addr) (c B n : Nat) (l : List PeerT) (hm : n ≤ maxLen) (id : ByteArray) (hid : id.size ≤ maxLen) (size first now : Int) (w : World) (hp : Peers w B A n l) (hB : B ≤ w.heap.size) (e0 : Int) (he : peersE l = e0) (hz : e0 ≠ 0) :
    Calls Try.prog 4 #[.slice A n c, .string id, .int .i64 size, .int .i64 first, .int .i64 now] w (AddNo e0 w) := by
  have HP := Lib.hid hp
  have HBB := Lib.hid hB
  have HN := Lib.hid hp.len
  have E0 := Lib.hid (Env.start w)
  clear hp hB
  have HE := Lib.hid he
  clear he
  go_enter Try.func4, Try.ntmps4
  go_wp2_with fail
  refine (pchk_is A c B n l hm _ HE.out _ (HP.out.below E0.out.bel HBB.out) (Nat.le_trans HBB.out E0.out.bel.size)).mono ?_
  rintro e' w1 ⟨rfl, hb1⟩
  have E1 := Lib.hid (E0.out.below hb1)
  clear hb1
  go_wp2
  all_goals first
    | (exfalso; omega)
    | (refine bodyPost_ret (v := .tuple #[.slice none 0 0, .int .i64 e0]) (by simp [results, Try.results4, go_sem]) rfl ⟨rfl, E1.out.bel⟩)

set_option maxHeartbeats 1000000 in
set_option maxRecDepth 100000 in
theorem add_id (A : Option Addr) (c B n : Nat) (l : List PeerT) (hm : n ≤ maxLen) (id : ByteArray) (hid : id.size ≤ maxLen) (size first now : Int) (w : World) (hp : Peers w B A n l) (hB : B ≤ w.heap.size) (he : peersE l = 0) (hi : idB id = false) :
    Calls Try.prog 4 #[.slice A n c, .string id, .int .i64 size, .int .i64 first, .int .i64 now] w (AddNo 3 w) := by
  have HP := Lib.hid hp
  have HBB := Lib.hid hB
  have HN := Lib.hid hp.len
  have E0 := Lib.hid (Env.start w)
  clear hp hB
  have HE := Lib.hid he
  have HID := Lib.hid hi
  clear he hi
  go_enter Try.func4, Try.ntmps4
  go_wp2_with fail
  refine (pchk_is A c B n l hm _ HE.out _ (HP.out.below E0.out.bel HBB.out) (Nat.le_trans HBB.out E0.out.bel.size)).mono ?_
  rintro e' w1 ⟨rfl, hb1⟩
  have E1 := Lib.hid (E0.out.below hb1)
  clear hb1
  go_wp2_with fail
  refine (bid_any id hid _).mono ?_
  rw [HID.out]
  rintro e' w' ⟨rfl, rfl⟩
  go_wp2
  all_goals first
    | (exfalso; omega)
    | (refine bodyPost_ret (v := .tuple #[.slice none 0 0, .int .i64 3]) (by simp [results, Try.results4, go_sem]) rfl ⟨rfl, E1.out.bel⟩)

set_option maxHeartbeats 1000000 in
set_option maxRecDepth 100000 in
theorem add_arg (A : Option Addr) (c B n : Nat) (l : List PeerT) (hm : n ≤ maxLen) (id : ByteArray) (hid : id.size ≤ maxLen) (size first now : Int) (w : World) (hp : Peers w B A n l) (hB : B ≤ w.heap.size) (he : peersE l = 0) (hi : idB id = true) (hbad : ArgBad size first now) :
    Calls Try.prog 4 #[.slice A n c, .string id, .int .i64 size, .int .i64 first, .int .i64 now] w (AddNo 1 w) := by
  have HP := Lib.hid hp
  have HBB := Lib.hid hB
  have HN := Lib.hid hp.len
  have E0 := Lib.hid (Env.start w)
  clear hp hB
  have HE := Lib.hid he
  have HID := Lib.hid hi
  clear he hi
  obtain ⟨b, hb⟩ : ∃ b, wi first 0 16777216 = b := ⟨_, rfl⟩
  have HV := Lib.hid hb
  unfold ArgBad at hbad
  rw [hb] at hbad
  clear hb
  rcases hbad with h | h | ⟨h1, h2, hv⟩ | ⟨h1, h2, hv, h⟩ | ⟨h1, h2, hv, h, h'⟩
  all_goals
    try subst hv
    go_enter Try.func4, Try.ntmps4
    go_wp2_with fail
    refine (pchk_is A c B n l hm _ HE.out _ (HP.out.below E0.out.bel HBB.out) (Nat.le_trans HBB.out E0.out.bel.size)).mono ?_
    rintro e' w1 ⟨rfl, hb1⟩
    have E1 := Lib.hid (E0.out.below hb1)
    clear hb1
    go_wp2_with fail
    refine (bid_any id hid _).mono ?_
    rw [HID.out]
    rintro e' w' ⟨rfl, rfl⟩
    go_wp2_with (go_at_call 12; (with_reducible refine (wval_is first _ HV.out _).mono ?_); rintro e' w' ⟨rfl, rfl⟩)
    all_goals first
      | (exfalso; omega)
      | (refine bodyPost_ret (v := .tuple #[.slice none 0 0, .int .i64 1]) (by simp [results, Try.results4, go_sem]) rfl ⟨rfl, E1.out.bel⟩)

set_option maxHeartbeats 1000000 in
set_option maxRecDepth 100000 in
theorem add_there (A : Option Addr) (c B n : Nat) (l : List PeerT) (hm : n ≤ maxLen) (id : ByteArray) (hid : id.size ≤ maxLen) (size first now : Int) (w : World) (hp : Peers w B A n l) (hB : B ≤ w.heap.size) (he : peersE l = 0) (hi : idB id = true) (hs0 : 1 ≤ size) (hs1 : size ≤ 64) (hv : wi first 0 16777216 = true) (hn0 : 0 ≤ now) (hn1 : now ≤ 1073741824) (k : Nat) (hk : k < l.length) (hidk : pid (l[k]'hk) = id) :
    Calls Try.prog 4 #[.slice A n c, .string id, .int .i64 size, .int .i64 first, .int .i64 now] w (AddNo 5 w) := by
  obtain ⟨h6, hgood, hasc⟩ := peersE_zero he
  have hn6 : n ≤ 6 := by rw [← hp.len]; exact h6
  have hfi := find_some A c B n l hasc k hk (by omega)
  rw [hidk] at hfi
  have HF := Lib.hid hfi
  clear hfi hgood hasc hidk
  have HP := Lib.hid hp
  have HBB := Lib.hid hB
  have HN := Lib.hid hp.len
  have E0 := Lib.hid (Env.start w)
  clear hp hB
  have HE := Lib.hid he
  have HID := Lib.hid hi
  have HV := Lib.hid hv
  clear he hi hv
  go_enter Try.func4, Try.ntmps4
  go_wp2_with fail
  refine (pchk_is A c B n l hm _ HE.out _ (HP.out.below E0.out.bel HBB.out) (Nat.le_trans HBB.out E0.out.bel.size)).mono ?_
  rintro e' w1 ⟨rfl, hb1⟩
  have E1 := Lib.hid (E0.out.below hb1)
  clear hb1
  go_wp2_with fail
  refine (bid_any id hid _).mono ?_
  rw [HID.out]
  rintro e' w' ⟨rfl, rfl⟩
  go_wp2_with (first | (go_at_call 12; (with_reducible refine (wval_is first _ HV.out _).mono ?_); rintro e' w' ⟨rfl, rfl⟩) | fail)
  refine (HF.out _ (HP.out.below E1.out.bel HBB.out) (Nat.le_trans HBB.out E1.out.bel.size)).mono ?_
  rintro e' w3 ⟨rfl, hb3⟩
  have E3 := Lib.hid (E1.out.below hb3)
  clear hb3
  go_wp2
  all_goals first
    | (exfalso; omega)
    | (refine bodyPost_ret (v := .tuple #[.slice none 0 0, .int .i64 5]) (by simp [results, Try.results4, go_sem]) rfl ⟨rfl, E3.out.bel⟩)

set_option maxHeartbeats 1000000 in
set_option maxRecDepth 100000 in
theorem add_full (A : Option Addr) (c B n : Nat) (l : List PeerT) (hm : n ≤ maxLen) (id : ByteArray) (hid : id.size ≤ maxLen) (size first now : Int) (w : World) (hp : Peers w B A n l) (hB : B ≤ w.heap.size) (he : peersE l = 0) (hi : idB id = true) (hs0 : 1 ≤ size) (hs1 : size ≤ 64) (hv : wi first 0 16777216 = true) (hn0 : 0 ≤ now) (hn1 : now ≤ 1073741824) (hno : ∀ j, (hj : j < l.length) → pid (l[j]'hj) ≠ id) (h6n : n = 6) :
    Calls Try.prog 4 #[.slice A n c, .string id, .int .i64 size, .int .i64 first, .int .i64 now] w (AddNo 10 w) := by
  obtain ⟨h6, hgood, hasc⟩ := peersE_zero he
  have hn6 : n ≤ 6 := by rw [← hp.len]; exact h6
  obtain ⟨i0, hi0, -, -, hfi⟩ := find_none A c B n l hasc id hno hp.len (by omega)
  have HF := Lib.hid hfi
  clear hfi hgood hasc hno
  have h6a : n ≤ 6 := by omega
  have h6b : ((n : Int) == 6) = true := by rw [beq_iff_eq]; omega
  clear h6n
  have HP := Lib.hid hp
  have HBB := Lib.hid hB
  have HN := Lib.hid hp.len
  have E0 := Lib.hid (Env.start w)
  clear hp hB
  have HE := Lib.hid he
  have HID := Lib.hid hi
  have HV := Lib.hid hv
  clear he hi hv
  go_enter Try.func4, Try.ntmps4
  go_wp2_with fail
  refine (pchk_is A c B n l hm _ HE.out _ (HP.out.below E0.out.bel HBB.out) (Nat.le_trans HBB.out E0.out.bel.size)).mono ?_
  rintro e' w1 ⟨rfl, hb1⟩
  have E1 := Lib.hid (E0.out.below hb1)
  clear hb1
  go_wp2_with fail
  refine (bid_any id hid _).mono ?_
  rw [HID.out]
  rintro e' w' ⟨rfl, rfl⟩
  go_wp2_with (go_at_call 12; (with_reducible refine (wval_is first _ HV.out _).mono ?_); rintro e' w' ⟨rfl, rfl⟩)
  refine (HF.out _ (HP.out.below E1.out.bel HBB.out) (Nat.le_trans HBB.out E1.out.bel.size)).mono ?_
  rintro e' w3 ⟨rfl, hb3⟩
  have E3 := Lib.hid (E1.out.below hb3)
  clear hb3
  go_wp2
  all_goals first
    | (exfalso; omega)
    | (refine bodyPost_ret (v := .tuple #[.slice none 0 0, .int .i64 10]) (by simp [results, Try.results4, go_sem]) rfl ⟨rfl, E3.out.bel⟩)

set_option maxHeartbeats 1000000 in
set_option maxRecDepth 100000 in
theorem drop_chk (A : Option Addr) (c B n : Nat) (l : List PeerT) (hm : n ≤ maxLen) (id : ByteArray) (hid : id.size ≤ maxLen) (w : World) (hp : Peers w B A n l) (hB : B ≤ w.heap.size) (e0 : Int) (he : peersE l = e0) (hz : e0 ≠ 0) :
    Calls Try.prog 5 #[.slice A n c, .string id] w (AddNo e0 w) := by
  have HP := Lib.hid hp
  have HBB := Lib.hid hB
  have HN := Lib.hid hp.len
  have E0 := Lib.hid (Env.start w)
  clear hp hB
  have HE := Lib.hid he
  clear he
  go_enter Try.func5, Try.ntmps5
  go_wp2_with fail
  refine (pchk_is A c B n l hm _ HE.out _ (HP.out.below E0.out.bel HBB.out) (Nat.le_trans HBB.out E0.out.bel.size)).mono ?_
  rintro e' w1 ⟨rfl, hb1⟩
  have E1 := Lib.hid (E0.out.below hb1)
  clear hb1
  go_wp2
  all_goals first
    | (exfalso; omega)
    | (refine bodyPost_ret (v := .tuple #[.slice none 0 0, .int .i64 e0]) (by simp [results, Try.results5, go_sem]) rfl ⟨rfl, E1.out.bel⟩)

set_option maxHeartbeats 1000000 in
set_option maxRecDepth 100000 in
theorem drop_none (A : Option Addr) (c B n : Nat) (l : List PeerT) (hm : n ≤ maxLen) (id : ByteArray) (hid : id.size ≤ maxLen) (w : World) (hp : Peers w B A n l) (hB : B ≤ w.heap.size) (he : peersE l = 0) (hno : ∀ j, (hj : j < l.length) → pid (l[j]'hj) ≠ id) :
    Calls Try.prog 5 #[.slice A n c, .string id] w (AddNo 4 w) := by
  obtain ⟨h6, hgood, hasc⟩ := peersE_zero he
  have hn6 : n ≤ 6 := by rw [← hp.len]; exact h6
  obtain ⟨i0, hi0, -, -, hfi⟩ := find_none A c B n l hasc id hno hp.len (by omega)
  have HF := Lib.hid hfi
  clear hfi hgood hasc hno
  have HP := Lib.hid hp
  have HBB := Lib.hid hB
  have HN := Lib.hid hp.len
  have E0 := Lib.hid (Env.start w)
  clear hp hB
  have HE := Lib.hid he
  clear he
  go_enter Try.func5, Try.ntmps5
  go_wp2_with fail
  refine (pchk_is A c B n l hm _ HE.out _ (HP.out.below E0.out.bel HBB.out) (Nat.le_trans HBB.out E0.out.bel.size)).mono ?_
  rintro e' w1 ⟨rfl, hb1⟩
  have E1 := Lib.hid (E0.out.below hb1)
  clear hb1
  go_wp2_with fail
  refine (HF.out _ (HP.out.below E1.out.bel HBB.out) (Nat.le_trans HBB.out E1.out.bel.size)).mono ?_
  rintro e' w3 ⟨rfl, hb3⟩
  have E3 := Lib.hid (E1.out.below hb3)
  clear hb3
  go_wp2
  all_goals first
    | (exfalso; omega)
    | (refine bodyPost_ret (v := .tuple #[.slice none 0 0, .int .i64 4]) (by simp [results, Try.results5, go_sem]) rfl ⟨rfl, E3.out.bel⟩)

set_option maxHeartbeats 1000000 in
set_option maxRecDepth 100000 in
theorem drop_ok (A : Option Addr) (c B n : Nat) (l : List PeerT) (hm : n ≤ maxLen) (id : ByteArray) (hid : id.size ≤ maxLen) (w : World) (hp : Peers w B A n l) (hB : B ≤ w.heap.size) (he : peersE l = 0) (k : Nat) (hk : k < l.length) (hidk : pid (l[k]'hk) = id) :
    Calls Try.prog 5 #[.slice A n c, .string id] w (AddIs A l ((l.map Prod.fst).take k ++ (l.map Prod.fst).drop (k + 1)) (n - 1) w) := by
  obtain ⟨h6, hgood, hasc⟩ := peersE_zero he
  have hn6 : n ≤ 6 := by rw [← hp.len]; exact h6
  have hfi := find_some A c B n l hasc k hk (by omega)
  rw [hidk] at hfi
  have HF := Lib.hid hfi
  have h64 : ∀ p ∈ l, (pvals p).length ≤ 64 := fun p hp => good64 (hgood p hp)
  have H64 := Lib.hid h64
  have HIDS := Lib.hid (fun p hq => ((hp.ok p hq).2.2.2 : (pid p).size ≤ maxLen))
  have hkn : k < n := by rw [← hp.len]; exact hk
  clear hfi hgood hasc hidk h64
  have HP := Lib.hid hp
  have HBB := Lib.hid hB
  have HN := Lib.hid hp.len
  have E0 := Lib.hid (Env.start w)
  clear hp hB
  have HE := Lib.hid he
  clear he
  go_enter Try.func5, Try.ntmps5
  go_wp2_with fail
  refine (pchk_is A c B n l hm _ HE.out _ (HP.out.below E0.out.bel HBB.out) (Nat.le_trans HBB.out E0.out.bel.size)).mono ?_
  rintro e' w1 ⟨rfl, hb1⟩
  have E1 := Lib.hid (E0.out.below hb1)
  clear hb1
  go_wp2_with fail
  refine (HF.out _ (HP.out.below E1.out.bel HBB.out) (Nat.le_trans HBB.out E1.out.bel.size)).mono ?_
  rintro e' w3 ⟨rfl, hb3⟩
  have E3 := Lib.hid (E1.out.below hb3)
  clear hb3
  go_wp2_with fail
  refine (copied_is A c B n l (by omega) H64.out _ (HP.out.below E3.out.bel HBB.out) (Nat.le_trans HBB.out E3.out.bel.size)).mono ?_
  rintro e' w4 ⟨A4, c4, l4, rfl, hmp, hown, hvo, hb4⟩
  have hs3 := E3.out.bel.size
  have E4 := Lib.hid (E3.out.below hb4)
  have hl4 : l4.length = n := by have := congrArg List.length hmp; simpa [HN.out] using this
  obtain ⟨g, c4', hva, hgb, hgl, hnc, hcm, -⟩ := ownsRow_at hown (by omega)
  injection hva with hva hvb hvc
  subst hva hvc
  have hids : ∀ p ∈ l4, (pid p).size ≤ maxLen := fun p hp4 => by
    have hp' : p.1 ∈ l4.map Prod.fst := List.mem_map.2 ⟨p, hp4, rfl⟩
    rw [hmp] at hp'
    obtain ⟨q, hq, hqe⟩ := List.mem_map.1 hp'
    show p.1.1.size ≤ maxLen
    rw [← hqe]
    exact HIDS.out q hq
  have IDS := Lib.hid hids
  have MP := Lib.hid hmp
  have OW := Lib.hid hown
  have VO := Lib.hid (show ValsOwn w.heap.size w4 l4 from fun p hp => ownsRow_base (hvo p hp) hs3)
  clear hids hmp hown hvo hb4 hvb
  go_wp2_with fail
  refine (slP_delete w3.heap.size g c4 n k (cellsP l4) hkn (oneCell_peers l4) _ OW.out).mono ?_
  rintro e' w5 ⟨rfl, hown5, hg5⟩
  have B5 := Lib.hid (E4.out.bel.grown hg5 (Nat.le_trans hs3 (by omega)) (fun k hk => by cases hk; omega))
  have hm5 : (l4.take k ++ l4.drop (k + 1)).map Prod.fst = (l.map Prod.fst).take k ++ (l.map Prod.fst).drop (k + 1) := by rw [List.map_append, List.map_take, List.map_drop, MP.out]
  have hv5 : ValsOwn w.heap.size w5 (l4.take k ++ l4.drop (k + 1)) := fun p hp => by
    have hp4 : p ∈ l4 := by
      rcases List.mem_append.1 hp with h | h
      · exact List.mem_of_mem_take h
      · exact List.mem_of_mem_drop h
    exact (VO.out.kept (u := .slice (some ⟨g, 0, none⟩) n c4) OW.out (by decide) hg5) p hp4
  have ho5 : w5.ownsRow w3.heap.size 34 7 (.slice (some ⟨g, 0, none⟩) (n - 1) c4) (n - 1) (cellsP (l4.take k ++ l4.drop (k + 1))) := by rw [cellsP_app, ← cellsP_takeL, ← cellsP_dropL]; exact hown5
  have hl5 : (l4.take k ++ l4.drop (k + 1)).length = n - 1 := by simp [hl4]; omega
  have M5 := Lib.hid hm5
  have P5 := Lib.hid (show Peers w5 w5.heap.size (some ⟨g, 0, none⟩) (n - 1) (l4.take k ++ l4.drop (k + 1)) from ⟨hl5, Reads.of_own ho5, hv5.ok (fun p hp => IDS.out p (by
    rcases List.mem_append.1 hp with h | h
    · exact List.mem_of_mem_take h
    · exact List.mem_of_mem_drop h))⟩)
  have K5 := Lib.hid (keeps_own (A0 := A) (l0 := l) (w := w) (show w.heap.size ≤ g by omega) hv5)
  clear hown5 hg5 hm5 hv5 ho5 hl5
  go_wp2
  refine bodyPost_ret (v := .tuple #[.slice (some ⟨g, 0, none⟩) (n - 1) c4, .int .i64 0]) (by simp [results, Try.results5, go_sem]) rfl ⟨_, _, _, rfl, M5.out, P5.out, B5.out, ⟨by omega, hcm⟩, K5.out⟩

end Go.Proofs.Yteojecbmmijccaa
