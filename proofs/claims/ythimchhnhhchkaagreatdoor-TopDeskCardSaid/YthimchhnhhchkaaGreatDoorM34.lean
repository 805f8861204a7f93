/- peers.Add and peers.Drop, walked. (with what it needs) -/
import Derived.Test.YthimchhnhhchkaaGreatDoorM20
import Derived.Test.YthimchhnhhchkaaGreatDoorM29
import Derived.Deep.RegionHeld3
import Derived.Test.YthimchhnhhchkaaGreatDoorM08
namespace Go.Proofs.YthimchhnhhchkaaGreatDoor
open Go.RowKit Go.Lib
set_option linter.unusedSimpArgs false
set_option linter.unusedVariables false

/-- what Add, Drop and their references answer where nothing is changed -/
def AddNo (e : Int) (w : World) (x : Ending) (w' : World) : Prop := x = .returned (.tuple #[.slice none 0 0, .int .i64 e]) ∧ Below w.heap.size w w'
/-- what they answer where something is -/
def AddIs (A0 : Option Addr) (l0 : List PeerT) (D : List PeerD) (n : Nat) (w : World) (x : Ending) (w' : World) : Prop :=
  ∃ A c l', x = .returned (.tuple #[.slice A n c, .int .i64 0]) ∧ l'.map Prod.fst = D ∧ Peers w' w'.heap.size A n l' ∧ Below w.heap.size w w' ∧ (n ≤ c ∧ c ≤ maxLen) ∧ KeepsP w A0 l0 A l'
/-- a peer that is watched from now on -/
def newP (id : ByteArray) (size first now : Int) : PeerD := (id, (0, 0, 0), size, [first], now)
def ArgBad (size first now : Int) : Prop := size < 1 ∨ 64 < size ∨ (1 ≤ size ∧ size ≤ 64 ∧ wi first 0 16777216 = false) ∨ (1 ≤ size ∧ size ≤ 64 ∧ wi first 0 16777216 = true ∧ now < 0) ∨ (1 ≤ size ∧ size ≤ 64 ∧ wi first 0 16777216 = true ∧ 0 ≤ now ∧ 1073741824 < now)
theorem cellsP_takeL : ∀ (l : List PeerT) (i : Nat), (cellsP l).take (i * 7) = cellsP (l.take i)
  | [], i => by simp [cellsP]
  | p :: l, 0 => by simp [cellsP]
  | p :: l, i + 1 => by
    simp only [cellsP, List.take_succ_cons]
    rw [List.take_append, pcells_len, List.take_of_length_le (by rw [pcells_len]; omega), show (i + 1) * 7 - 7 = i * 7 by omega, cellsP_takeL l i]
theorem cellsP_dropL : ∀ (l : List PeerT) (i : Nat), (cellsP l).drop (i * 7) = cellsP (l.drop i)
  | [], i => by simp [cellsP]
  | p :: l, 0 => by simp [cellsP]
  | p :: l, i + 1 => by
    simp only [cellsP, List.drop_succ_cons]
    rw [List.drop_append, pcells_len, List.drop_of_length_le (by rw [pcells_len]; omega), show (i + 1) * 7 - 7 = i * 7 by omega, cellsP_dropL l i]
    rfl
/-- peers with one put in -/
def InsB (w4 : World) (n i0 : Nat) (pn : PeerT) (l7 : List PeerT) (e : Ending) (w9 : World) : Prop :=
  ∃ A9 c9, e = .returned (.slice A9 (n + 1) c9) ∧ w9.ownsRow w4.heap.size 183 7 (.slice A9 (n + 1) c9) (n + 1) (cellsP (l7.take i0 ++ pn :: l7.drop i0)) ∧ ValsOwn w4.heap.size w9 l7 ∧ Below w4.heap.size w4 w9
/-- a copy in blocks from b on -/
def CopyB (b : Nat) (l : List PeerT) (n : Nat) (w : World) (e : Ending) (w' : World) : Prop :=
  ∃ A c l', e = .returned (.slice A n c) ∧ l'.map Prod.fst = l.map Prod.fst ∧ w'.ownsRow b 183 7 (.slice A n c) n (cellsP l') ∧ ValsOwn b w' l' ∧ Below w.heap.size w w' ∧ ∀ k, (Value.slice A n c).ownBlock = some k → w.heap.size ≤ k ∧ k < w'.heap.size
/-- slices.Insert of one peer, wherever it goes -/
theorem insert_any (base n i vb : Nat) (A : Option Addr) (c : Nat) (xs vs : List Value) (hn : n ≤ 1000) (hi : i ≤ n) (hone : ∀ u ∈ xs, u.oneCell' = true) (honev : ∀ u ∈ vs, u.oneCell' = true) (hvl : vs.length = 7) (w : World)
    (hown : w.ownsRow base 183 7 (.slice A n c) n xs) (hv : Blk w vb 183 vs.toArray) (hne : (Value.slice A n c).ownBlock ≠ some vb) (hbase : base ≤ w.heap.size) :
    Calls Tryz.prog 163 #[.slice A n c, .int .i64 i, .slice (some ⟨vb, 0, none⟩) 1 1] w (Put1 A base (n + 1) (xs.take (i * 7) ++ (vs ++ xs.drop (i * 7))) w) := by
  have hxl := hown.1
  by_cases h : i = n
  · subst h
    have := insert_end base i vb A c xs vs hn honev w hown hv hvl hbase
    rwa [← show xs.take (i * 7) ++ (vs ++ xs.drop (i * 7)) = xs ++ vs by rw [List.take_of_length_le (by omega), List.drop_of_length_le (by omega), List.append_nil]] at this
  · obtain ⟨d, rfl⟩ : ∃ d, n = i + d := ⟨n - i, by omega⟩
    by_cases hr : i + d + 1 ≤ c
    · obtain ⟨g, c', hva, -⟩ := ownsRow_at hown (by omega)
      injection hva with hva hvb hvc
      subst hva hvc
      exact insert_room base g i d vb c xs vs (by omega) hr hone honev w hown hv hvl (fun e => hne (by rw [e]; rfl))
    · exact insert_grow base i d vb c A xs vs (by omega) hn hr hone honev w hown hv hvl hbase

set_option maxHeartbeats 1000000 in
set_option maxRecDepth 100000 in
theorem add_chk (A : Option Addr) (c B n : Nat) (l : List PeerT) (hm : n ≤ maxLen) (id : ByteArray) (hid : id.size ≤ maxLen) (size first now : Int) (w : World) (hp : Peers w B A n l) (hB : B ≤ w.heap.size) (e0 : Int) (he : peersE l = e0) (hz : e0 ≠ 0) :
    Calls Tryz.prog 139 #[.slice A n c, .string id, .int .i64 size, .int .i64 first, .int .i64 now] w (AddNo e0 w) := by
  have HP := Lib.hid hp
  have HBB := Lib.hid hB
  have HN := Lib.hid hp.len
  have E0 := Lib.hid (Env.start w)
  clear hp hB
  have HE := Lib.hid he
  clear he
  go_enter Tryz.func139, Tryz.ntmps139
  go_wp2_with fail
  refine (pchk_is A c B n l hm _ HE.out _ (HP.out.below E0.out.bel HBB.out) (Nat.le_trans HBB.out E0.out.bel.size)).mono ?_
  rintro e' w1 ⟨rfl, hb1⟩
  have E1 := Lib.hid (E0.out.below hb1)
  clear hb1
  go_wp2
  all_goals first
    | (exfalso; omega)
    | (refine bodyPost_ret (v := .tuple #[.slice none 0 0, .int .i64 e0]) (by simp [results, Tryz.results139, go_sem]) rfl ⟨rfl, E1.out.bel⟩)

set_option maxHeartbeats 1000000 in
set_option maxRecDepth 100000 in
theorem add_id (A : Option Addr) (c B n : Nat) (l : List PeerT) (hm : n ≤ maxLen) (id : ByteArray) (hid : id.size ≤ maxLen) (size first now : Int) (w : World) (hp : Peers w B A n l) (hB : B ≤ w.heap.size) (he : peersE l = 0) (hi : idB id = false) :
    Calls Tryz.prog 139 #[.slice A n c, .string id, .int .i64 size, .int .i64 first, .int .i64 now] w (AddNo 3 w) := by
  have HP := Lib.hid hp
  have HBB := Lib.hid hB
  have HN := Lib.hid hp.len
  have E0 := Lib.hid (Env.start w)
  clear hp hB
  have HE := Lib.hid he
  have HID := Lib.hid hi
  clear he hi
  go_enter Tryz.func139, Tryz.ntmps139
  go_wp2_with fail
  refine (pchk_is A c B n l hm _ HE.out _ (HP.out.below E0.out.bel HBB.out) (Nat.le_trans HBB.out E0.out.bel.size)).mono ?_
  rintro e' w1 ⟨rfl, hb1⟩
  have E1 := Lib.hid (E0.out.below hb1)
  clear hb1
  go_wp2_with fail
  refine (bid_any id hid _).mono ?_
  rw [HID.out]
  rintro e' w' ⟨rfl, rfl⟩
  go_wp2
  all_goals first
    | (exfalso; omega)
    | (refine bodyPost_ret (v := .tuple #[.slice none 0 0, .int .i64 3]) (by simp [results, Tryz.results139, go_sem]) rfl ⟨rfl, E1.out.bel⟩)

set_option maxHeartbeats 1000000 in
set_option maxRecDepth 100000 in
theorem add_arg (A : Option Addr) (c B n : Nat) (l : List PeerT) (hm : n ≤ maxLen) (id : ByteArray) (hid : id.size ≤ maxLen) (size first now : Int) (w : World) (hp : Peers w B A n l) (hB : B ≤ w.heap.size) (he : peersE l = 0) (hi : idB id = true) (hbad : ArgBad size first now) :
    Calls Tryz.prog 139 #[.slice A n c, .string id, .int .i64 size, .int .i64 first, .int .i64 now] w (AddNo 1 w) := by
  have HP := Lib.hid hp
  have HBB := Lib.hid hB
  have HN := Lib.hid hp.len
  have E0 := Lib.hid (Env.start w)
  clear hp hB
  have HE := Lib.hid he
  have HID := Lib.hid hi
  clear he hi
  obtain ⟨b, hb⟩ : ∃ b, wi first 0 16777216 = b := ⟨_, rfl⟩
  have HV := Lib.hid hb
  unfold ArgBad at hbad
  rw [hb] at hbad
  clear hb
  rcases hbad with h | h | ⟨h1, h2, hv⟩ | ⟨h1, h2, hv, h⟩ | ⟨h1, h2, hv, h, h'⟩
  all_goals
    try subst hv
    go_enter Tryz.func139, Tryz.ntmps139
    go_wp2_with fail
    refine (pchk_is A c B n l hm _ HE.out _ (HP.out.below E0.out.bel HBB.out) (Nat.le_trans HBB.out E0.out.bel.size)).mono ?_
    rintro e' w1 ⟨rfl, hb1⟩
    have E1 := Lib.hid (E0.out.below hb1)
    clear hb1
    go_wp2_with fail
    refine (bid_any id hid _).mono ?_
    rw [HID.out]
    rintro e' w' ⟨rfl, rfl⟩
    go_wp2_with (go_at_call 132; (with_reducible refine (wval_is first _ HV.out _).mono ?_); rintro e' w' ⟨rfl, rfl⟩)
    all_goals first
      | (exfalso; omega)
      | (refine bodyPost_ret (v := .tuple #[.slice none 0 0, .int .i64 1]) (by simp [results, Tryz.results139, go_sem]) rfl ⟨rfl, E1.out.bel⟩)

set_option maxHeartbeats 1000000 in
set_option maxRecDepth 100000 in
theorem add_there (A : Option Addr) (c B n : Nat) (l : List PeerT) (hm : n ≤ maxLen) (id : ByteArray) (hid : id.size ≤ maxLen) (size first now : Int) (w : World) (hp : Peers w B A n l) (hB : B ≤ w.heap.size) (he : peersE l = 0) (hi : idB id = true) (hs0 : 1 ≤ size) (hs1 : size ≤ 64) (hv : wi first 0 16777216 = true) (hn0 : 0 ≤ now) (hn1 : now ≤ 1073741824) (k : Nat) (hk : k < l.length) (hidk : pid (l[k]'hk) = id) :
    Calls Tryz.prog 139 #[.slice A n c, .string id, .int .i64 size, .int .i64 first, .int .i64 now] w (AddNo 5 w) := by
  obtain ⟨h6, hgood, hasc⟩ := peersE_zero he
  have hn6 : n ≤ 6 := by rw [← hp.len]; exact h6
  have hfi := find_some A c B n l hasc k hk (by omega)
  rw [hidk] at hfi
  have HF := Lib.hid hfi
  clear hfi hgood hasc hidk
  have HP := Lib.hid hp
  have HBB := Lib.hid hB
  have HN := Lib.hid hp.len
  have E0 := Lib.hid (Env.start w)
  clear hp hB
  have HE := Lib.hid he
  have HID := Lib.hid hi
  have HV := Lib.hid hv
  clear he hi hv
  go_enter Tryz.func139, Tryz.ntmps139
  go_wp2_with fail
  refine (pchk_is A c B n l hm _ HE.out _ (HP.out.below E0.out.bel HBB.out) (Nat.le_trans HBB.out E0.out.bel.size)).mono ?_
  rintro e' w1 ⟨rfl, hb1⟩
  have E1 := Lib.hid (E0.out.below hb1)
  clear hb1
  go_wp2_with fail
  refine (bid_any id hid _).mono ?_
  rw [HID.out]
  rintro e' w' ⟨rfl, rfl⟩
  go_wp2_with (first | (go_at_call 132; (with_reducible refine (wval_is first _ HV.out _).mono ?_); rintro e' w' ⟨rfl, rfl⟩) | fail)
  refine (HF.out _ (HP.out.below E1.out.bel HBB.out) (Nat.le_trans HBB.out E1.out.bel.size)).mono ?_
  rintro e' w3 ⟨rfl, hb3⟩
  have E3 := Lib.hid (E1.out.below hb3)
  clear hb3
  go_wp2
  all_goals first
    | (exfalso; omega)
    | (refine bodyPost_ret (v := .tuple #[.slice none 0 0, .int .i64 5]) (by simp [results, Tryz.results139, go_sem]) rfl ⟨rfl, E3.out.bel⟩)

set_option maxHeartbeats 1000000 in
set_option maxRecDepth 100000 in
theorem add_full (A : Option Addr) (c B n : Nat) (l : List PeerT) (hm : n ≤ maxLen) (id : ByteArray) (hid : id.size ≤ maxLen) (size first now : Int) (w : World) (hp : Peers w B A n l) (hB : B ≤ w.heap.size) (he : peersE l = 0) (hi : idB id = true) (hs0 : 1 ≤ size) (hs1 : size ≤ 64) (hv : wi first 0 16777216 = true) (hn0 : 0 ≤ now) (hn1 : now ≤ 1073741824) (hno : ∀ j, (hj : j < l.length) → pid (l[j]'hj) ≠ id) (h6n : n = 6) :
    Calls Tryz.prog 139 #[.slice A n c, .string id, .int .i64 size, .int .i64 first, .int .i64 now] w (AddNo 10 w) := by
  obtain ⟨h6, hgood, hasc⟩ := peersE_zero he
  have hn6 : n ≤ 6 := by rw [← hp.len]; exact h6
  obtain ⟨i0, hi0, -, -, hfi⟩ := find_none A c B n l hasc id hno hp.len (by omega)
  have HF := Lib.hid hfi
  clear hfi hgood hasc hno
  have h6a : n ≤ 6 := by omega
  have h6b : ((n : Int) == 6) = true := by rw [beq_iff_eq]; omega
  clear h6n
  have HP := Lib.hid hp
  have HBB := Lib.hid hB
  have HN := Lib.hid hp.len
  have E0 := Lib.hid (Env.start w)
  clear hp hB
  have HE := Lib.hid he
  have HID := Lib.hid hi
  have HV := Lib.hid hv
  clear he hi hv
  go_enter Tryz.func139, Tryz.ntmps139
  go_wp2_with fail
  refine (pchk_is A c B n l hm _ HE.out _ (HP.out.below E0.out.bel HBB.out) (Nat.le_trans HBB.out E0.out.bel.size)).mono ?_
  rintro e' w1 ⟨rfl, hb1⟩
  have E1 := Lib.hid (E0.out.below hb1)
  clear hb1
  go_wp2_with fail
  refine (bid_any id hid _).mono ?_
  rw [HID.out]
  rintro e' w' ⟨rfl, rfl⟩
  go_wp2_with (go_at_call 132; (with_reducible refine (wval_is first _ HV.out _).mono ?_); rintro e' w' ⟨rfl, rfl⟩)
  refine (HF.out _ (HP.out.below E1.out.bel HBB.out) (Nat.le_trans HBB.out E1.out.bel.size)).mono ?_
  rintro e' w3 ⟨rfl, hb3⟩
  have E3 := Lib.hid (E1.out.below hb3)
  clear hb3
  go_wp2
  all_goals first
    | (exfalso; omega)
    | (refine bodyPost_ret (v := .tuple #[.slice none 0 0, .int .i64 10]) (by simp [results, Tryz.results139, go_sem]) rfl ⟨rfl, E3.out.bel⟩)



































































































































end Go.Proofs.YthimchhnhhchkaaGreatDoor

namespace Go.Proofs.YthimchhnhhchkaaGreatDoor
open Go.RowKit Go.Lib
set_option linter.unusedSimpArgs false
set_option linter.unusedVariables false

set_option maxHeartbeats 1000000 in
set_option maxRecDepth 100000 in
theorem add_ok (A : Option Addr) (c B n : Nat) (l : List PeerT) (hm : n ≤ maxLen) (id : ByteArray) (hid : id.size ≤ maxLen) (size first now : Int) (w : World) (hp : Peers w B A n l) (hB : B ≤ w.heap.size) (he : peersE l = 0) (hi : idB id = true) (hs0 : 1 ≤ size) (hs1 : size ≤ 64) (hv : wi first 0 16777216 = true) (hn0 : 0 ≤ now) (hn1 : now ≤ 1073741824) (hno : ∀ j, (hj : j < l.length) → pid (l[j]'hj) ≠ id) (h6n : n < 6) (i0 : Nat) (hi0 : i0 ≤ n) (hfi : ∀ (w : World) (hp : Peers w B A n l) (hB : B ≤ w.heap.size), Calls Tryz.prog 162 #[.slice A n c, .string id] w fun e w' => e = .returned (.tuple #[.int .i64 (i0 : Int), .bool false]) ∧ Below w.heap.size w w') :
    Calls Tryz.prog 139 #[.slice A n c, .string id, .int .i64 size, .int .i64 first, .int .i64 now] w (AddIs A l ((l.map Prod.fst).take i0 ++ newP id size first now :: (l.map Prod.fst).drop i0) (n + 1) w) := by
  obtain ⟨h6, hgood, hasc⟩ := peersE_zero he
  have hn6 : n ≤ 6 := by rw [← hp.len]; exact h6
  have HF := Lib.hid hfi
  have h64 : ∀ p ∈ l, (pvals p).length ≤ 64 := fun p hp => good64 (hgood p hp)
  have H64 := Lib.hid h64
  have HIDS := Lib.hid (fun p hq => ((hp.ok p hq).2.2.2 : (pid p).size ≤ maxLen))
  clear hfi hgood hasc hno h64
  have HP := Lib.hid hp
  have HBB := Lib.hid hB
  have HN := Lib.hid hp.len
  have E0 := Lib.hid (Env.start w)
  clear hp hB
  have HE := Lib.hid he
  have HID := Lib.hid hi
  have HV := Lib.hid hv
  clear he hi hv
  go_enter Tryz.func139, Tryz.ntmps139
  go_wp2_with fail
  refine (pchk_is A c B n l hm _ HE.out _ (HP.out.below E0.out.bel HBB.out) (Nat.le_trans HBB.out E0.out.bel.size)).mono ?_
  rintro e' w1 ⟨rfl, hb1⟩
  have E1 := Lib.hid (E0.out.below hb1)
  clear hb1
  go_wp2_with fail
  refine (bid_any id hid _).mono ?_
  rw [HID.out]
  rintro e' w' ⟨rfl, rfl⟩
  go_wp2_with (go_at_call 132; (with_reducible refine (wval_is first _ HV.out _).mono ?_); rintro e' w' ⟨rfl, rfl⟩)
  refine (HF.out _ (HP.out.below E1.out.bel HBB.out) (Nat.le_trans HBB.out E1.out.bel.size)).mono ?_
  rintro e' w3 ⟨rfl, hb3⟩
  have E3 := Lib.hid (E1.out.below hb3)
  clear hb3
  go_upto_region 14 with fail
  have hs3 := E3.out.bel.size
  have hE4 := (E3.out.lay #[.int .i64 first] 3).lay (pcells (newP id size first now, some ⟨w3.heap.size, 0, none⟩, 1)).toArray 183
  rw [show (w3.alloc (.cells #[.int .i64 first] 3)).heap.size = w3.heap.size + 1 by simp] at hE4
  have E4 := Lib.hid hE4
  clear hE4
  simp only [pcells, newP, pid, pgi, pgs, pgd, pcap, psl, pvals, plast, List.length_cons, List.length_nil, Nat.zero_add] at E4
  have q4 : ((w3.alloc (.cells #[.int .i64 first] 3)).alloc (.cells #[.string id, .int .i64 0, .int .i64 0, .int .i64 0, .int .i64 size, .slice (some ⟨w3.heap.size, 0, none⟩) 1 1, .int .i64 now] 183)).heap.size = w3.heap.size + 2 := by simp
  generalize hW4 : World.alloc (World.alloc w3 _) _ = w4 at *
  clear hW4
  have Q4 := Lib.hid q4
  clear q4
  have HCP := Lib.hid (show ∀ W, Below w4.heap.size w4 W → Calls Tryz.prog 164 #[.slice A n c] W (CopyB w4.heap.size l n W) from fun W h =>
    (copied_is A c B n l (by omega) H64.out _ (HP.out.below (E4.out.below h).bel HBB.out) (Nat.le_trans HBB.out (E4.out.below h).bel.size)).mono fun e w' ⟨A', c', l', h1, h2, h3, h4, h5⟩ => ⟨A', c', l', h1, h2, ownsRow_base h3 h.size, fun p hp => ownsRow_base (h4 p hp) h.size, h5, fun k hk => h3.lt k hk⟩)
  have HIN := Lib.hid (show ∀ W vb A7 c7 (l7 : List PeerT), Below w4.heap.size w4 W → W.ownsRow w4.heap.size 183 7 (.slice A7 n c7) n (cellsP l7) → ValsOwn w4.heap.size W l7 → Blk W vb 183 #[.string id, .int .i64 0, .int .i64 0, .int .i64 0, .int .i64 size, .slice (some ⟨w3.heap.size, 0, none⟩) 1 1, .int .i64 now] → (Value.slice A7 n c7).ownBlock ≠ some vb →
      Calls Tryz.prog 163 #[.slice A7 n c7, .int .i64 i0, .slice (some ⟨vb, 0, none⟩) 1 1] W (InsB w4 n i0 (newP id size first now, some ⟨w3.heap.size, 0, none⟩, 1) l7) from fun W vb A7 c7 l7 h0 h1 hv h2 h3 =>
    (insert_any w4.heap.size n i0 vb A7 c7 (cellsP l7) (pcells (newP id size first now, some ⟨w3.heap.size, 0, none⟩, 1)) (by omega) hi0 (oneCell_peers l7) (oneCell_p (newP id size first now, some ⟨w3.heap.size, 0, none⟩, 1)) rfl W h1 h2 h3 h0.size).mono fun e w9 ⟨A9, c9, e1, e2, e3⟩ =>
      ⟨A9, c9, e1, by rw [cellsP_app, ← cellsP_takeL]; show w9.ownsRow _ _ _ _ _ (_ ++ (pcells _ ++ cellsP (l7.drop i0))); rw [← cellsP_dropL]; exact e2, hv.kept h1 (by decide) (by rw [own_row]; exact e3), h0.grown e3 h0.size (fun k hk => (h1.lt k (by rw [own_row]; exact hk)).1)⟩)
  have HS := Lib.hid (show ∀ w', Below w4.heap.size w4 w' → (Below w4.heap.size w4 w' ∧ w'.cell? ⟨w3.heap.size + 1, 0, none⟩ = some (.string id) ∧ w'.cell? ⟨w3.heap.size + 1, 1, none⟩ = some (.int .i64 0) ∧ w'.cell? ⟨w3.heap.size + 1, 2, none⟩ = some (.int .i64 0) ∧ w'.cell? ⟨w3.heap.size + 1, 3, none⟩ = some (.int .i64 0) ∧ w'.cell? ⟨w3.heap.size + 1, 4, none⟩ = some (.int .i64 size) ∧ w'.cell? ⟨w3.heap.size + 1, 5, none⟩ = some (.slice (some ⟨w3.heap.size, 0, none⟩) 1 1) ∧ w'.cell? ⟨w3.heap.size + 1, 6, none⟩ = some (.int .i64 now))
    from fun w' h => ⟨h, (E4.out.below h).hd.cell 0, (E4.out.below h).hd.cell 1, (E4.out.below h).hd.cell 2, (E4.out.below h).hd.cell 3, (E4.out.below h).hd.cell 4, (E4.out.below h).hd.cell 5, (E4.out.below h).hd.cell 6⟩)
  go_region_held3 (fun w' => Below w4.heap.size w4 w' ∧ w'.cell? ⟨w3.heap.size + 1, 0, none⟩ = some (.string id) ∧ w'.cell? ⟨w3.heap.size + 1, 1, none⟩ = some (.int .i64 0) ∧ w'.cell? ⟨w3.heap.size + 1, 2, none⟩ = some (.int .i64 0) ∧ w'.cell? ⟨w3.heap.size + 1, 3, none⟩ = some (.int .i64 0) ∧ w'.cell? ⟨w3.heap.size + 1, 4, none⟩ = some (.int .i64 size) ∧ w'.cell? ⟨w3.heap.size + 1, 5, none⟩ = some (.slice (some ⟨w3.heap.size, 0, none⟩) 1 1) ∧ w'.cell? ⟨w3.heap.size + 1, 6, none⟩ = some (.int .i64 now))
    ((refine HS.out _ ?_; repeat (first | (with_reducible exact hL9) | (with_reducible exact hL7) | (with_reducible exact Below.refl _ _) | (with_reducible refine Below.al5 ?_) | (with_reducible refine Below.drew ?_))))
    (first
      | (go_at_call 164; (with_reducible refine (HCP.out _ ?hb).mono ?_); (case hb => repeat (first | (with_reducible exact Below.refl _ _) | (with_reducible refine Below.al5 ?_) | (with_reducible refine Below.drew ?_))); rintro e' w7 ⟨A7, c7, l7, rfl, hm7, hown7, hv7, hb7, hlt7⟩; have hL7 : Below w4.heap.size w4 w7 := Below.thru5 (by repeat (first | (with_reducible exact Below.refl _ _) | (with_reducible refine Below.al5 ?_) | (with_reducible refine Below.drew ?_))) hb7)
      | (go_at_call 163; (with_reducible refine (HIN.out _ _ _ _ l7 ?ia ?ib ?ic ?iq ?ie).mono ?_); (case ia => repeat (first | (with_reducible exact hL7) | (with_reducible refine Below.al5 ?_) | (with_reducible refine Below.drew ?_))); (case ib => first | (with_reducible exact hown7) | (with_reducible exact hown7.alloc _) | exact hown7.alloc _); (case ic => first | (with_reducible exact hv7) | (with_reducible exact hv7.alloc _) | exact hv7.alloc _); (case iq => first | (with_reducible exact Blk.new _ _ _) | exact (Blk.drew (Blk.new _ _ _)).below hb7 (by simp) | exact (Blk.new _ _ _).below hb7 (by simp)); (case ie => first | (with_reducible exact (fun hk => absurd (hlt7 _ hk).2 (Nat.lt_irrefl _))) | exact (fun hk => absurd (hlt7 _ hk).1 (by simp))); rintro e' w9 ⟨A9, c9, rfl, hown9, hv9, hL9⟩))
  all_goals
    have E9 := E4.out.below hL9
    have hcp9 := ownsRow_cap hown9
    have hsz4 : w.heap.size ≤ w4.heap.size := by have := Q4.out; omega
    have hl7 : l7.length = n := by have := congrArg List.length hm7; simpa [HN.out] using this
    have hrow : w9.ownsRow w.heap.size 3 1 (.slice (some ⟨w3.heap.size, 0, none⟩) 1 1) 1 (cellsI [first]) := ⟨rfl, .inr ⟨w3.heap.size, 1, #[.int .i64 first], rfl, hs3, E9.tl.hd, Nat.le_refl _, by unfold maxLen; omega, rfl, rfl⟩⟩
    obtain ⟨g, c', hva, hgb, -⟩ := ownsRow_at hown9 (by omega)
    injection hva with hva hvb hvc
    subst hva hvc
    have hvo : ValsOwn w.heap.size w9 (l7.take i0 ++ (newP id size first now, some ⟨w3.heap.size, 0, none⟩, 1) :: l7.drop i0) := fun p hp => by
      rcases List.mem_append.1 hp with h | h
      · exact ownsRow_base (hv9 p (List.mem_of_mem_take h)) hsz4
      · rcases List.mem_cons.1 h with rfl | h
        · exact hrow
        · exact ownsRow_base (hv9 p (List.mem_of_mem_drop h)) hsz4
    have hi7 : ∀ p ∈ l7, (pid p).size ≤ maxLen := fun p hp4 => by
      have hp' : p.1 ∈ l7.map Prod.fst := List.mem_map.2 ⟨p, hp4, rfl⟩
      rw [hm7] at hp'
      obtain ⟨q, hq, hqe⟩ := List.mem_map.1 hp'
      show p.1.1.size ≤ maxLen
      rw [← hqe]
      exact HIDS.out q hq
    have hids : ∀ p ∈ (l7.take i0 ++ (newP id size first now, some ⟨w3.heap.size, 0, none⟩, 1) :: l7.drop i0), (pid p).size ≤ maxLen := fun p hp => by
      rcases List.mem_append.1 hp with h | h
      · exact hi7 p (List.mem_of_mem_take h)
      · rcases List.mem_cons.1 h with rfl | h
        · exact hid
        · exact hi7 p (List.mem_of_mem_drop h)
    have M9 := Lib.hid (show (l7.take i0 ++ (newP id size first now, some ⟨w3.heap.size, 0, none⟩, 1) :: l7.drop i0).map Prod.fst = (l.map Prod.fst).take i0 ++ newP id size first now :: (l.map Prod.fst).drop i0 by rw [List.map_append, List.map_cons, List.map_take, List.map_drop, hm7])
    have P9 := Lib.hid (show Peers w9 w9.heap.size (some ⟨g, 0, none⟩) (n + 1) (l7.take i0 ++ (newP id size first now, some ⟨w3.heap.size, 0, none⟩, 1) :: l7.drop i0) from ⟨by simp [hl7]; omega, Reads.of_own hown9, hvo.ok hids⟩)
    have K9 := Lib.hid (keeps_own (A0 := A) (l0 := l) (w := w) (show w.heap.size ≤ g by omega) hvo)
    have B9 := Lib.hid E9.bel
    clear hown9 hv9 hL9 E9 hrow hvo hids hi7 hm7 hown7 hv7 hb7 hlt7 hL7 HCP HIN HS hvb hl7
    go_wp2
    refine bodyPost_ret (v := .tuple #[.slice (some ⟨g, 0, none⟩) (n + 1) c9, .int .i64 0]) (by simp [results, Tryz.results139, go_sem]) rfl ⟨_, _, _, rfl, M9.out, P9.out, B9.out, hcp9, K9.out⟩

end Go.Proofs.YthimchhnhhchkaaGreatDoor

namespace Go.Proofs.YthimchhnhhchkaaGreatDoor
open Go.RowKit Go.Lib
set_option linter.unusedSimpArgs false
set_option linter.unusedVariables false

/-- what is left of AddIs when the answer is known -/
def AddOk (w : World) (A0 : Option Addr) (l0 : List PeerT) (D : List PeerD) (n : Nat) (A : Option Addr) (c : Nat) (w' : World) : Prop :=
  ∃ l', l'.map Prod.fst = D ∧ Peers w' w'.heap.size A n l' ∧ Below w.heap.size w w' ∧ (n ≤ c ∧ c ≤ maxLen) ∧ KeepsP w A0 l0 A l'
theorem AddOk.bel {w : World} {A0 : Option Addr} {l0 : List PeerT} {D : List PeerD} {n : Nat} {A : Option Addr} {c : Nat} {w' : World} (h : AddOk w A0 l0 D n A c w') : Below w.heap.size w w' := by
  obtain ⟨_, _, _, h9, _⟩ := h
  exact h9
def CatIs (w W : World) (A0 : Option Addr) (l0 : List PeerT) (D : List PeerD) (n : Nat) (e : Ending) (w' : World) : Prop := ∃ A c, e = .returned (.slice A n c) ∧ AddOk w A0 l0 D n A c w' ∧ Below W.heap.size W w'
theorem keeps_sub {w w' : World} {H n : Nat} {A0 A : Option Addr} {c : Nat} {xs : List Value} {l l' : List PeerT} (ho : w'.ownsRow H 183 7 (.slice A n c) n xs) (hH : w.heap.size ≤ H)
    (hs : ∀ p ∈ l', 0 < (pvals p).length → ∀ a, p.2.1 = some a → w.heap.size ≤ a.block ∨ ∃ q ∈ l, 0 < (pvals q).length ∧ q.2.1 = some a) : KeepsP w A0 l A l' := fun P hP h0 =>
  ⟨fun _ a ha => hP _ (Nat.le_trans hH (ho.lt a.block (by rw [own_row, ha]; rfl)).1), fun p hp hl a ha => by
    rcases hs p hp hl a ha with h | ⟨q, hq, hql, hqa⟩
    · exact hP _ h
    · exact h0.2 q hq hql a hqa⟩
theorem Reads.head {w : World} {B n k : Nat} {A : Option Addr} {l : List PeerT} (h : Reads w B 7 A n (cellsP l)) (hl : l.length = n) (hk : k ≤ n) : Reads w B 7 A k (cellsP (l.take k)) := by
  refine ⟨by rw [cellsP_len, List.length_take]; omega, fun hn => ?_⟩
  obtain ⟨ad, e, hb, hc⟩ := h.2 (by omega)
  refine ⟨ad, e, hb, fun j u hj => hc j u ?_⟩
  rw [← cellsP_takeL, List.getElem?_take] at hj
  split at hj
  · exact hj
  · cases hj
theorem Reads.tail {w : World} {B n k cap : Nat} {A : Option Addr} {l : List PeerT} (h : Reads w B 7 A n (cellsP l)) (hk : k ≤ n) (hc : n ≤ cap) : Reads w B 7 (if cap = k then A else A.map (·.add (k * 7))) (n - k) (cellsP (l.drop k)) := by
  rw [← cellsP_dropL]
  exact h.cut hk hc
theorem peer_new_ok {w : World} {vr : Nat} {id : ByteArray} {size first now : Int} (hid : id.size ≤ maxLen) (hvr : Blk w vr 3 #[.int .i64 first]) : PeerOk w w.heap.size (newP id size first now, some ⟨vr, 0, none⟩, 1) :=
  ⟨Reads.of_own (base := 0) (e := 3) (c := 1) ⟨rfl, .inr ⟨vr, 1, #[.int .i64 first], rfl, Nat.zero_le _, hvr, Nat.le_refl _, by unfold maxLen; omega, rfl, rfl⟩⟩, Nat.le_refl _, (show 1 ≤ maxLen by unfold maxLen; omega), hid⟩
theorem Blk.new2 (W : World) (o : Obj) (t : TypeId) (cs : Array Value) : Blk ((W.alloc o).alloc (.cells cs t)) (W.heap.size + 1) t cs := by
  have := Blk.new (W.alloc o) t cs
  rwa [show (W.alloc o).heap.size = W.heap.size + 1 by simp] at this






















































































































































































































































































































































































































































end Go.Proofs.YthimchhnhhchkaaGreatDoor
