/- The law PeersSay, walked. -/
import Derived.Test.YteojecbmmijccaaPeAdk
import Derived.Test.YteojecbmmijccaaPeRa
namespace Go.Proofs.Yteojecbmmijccaa
open Go.RowKit Go.Lib
set_option linter.unusedSimpArgs false
set_option linter.unusedVariables false

/-- peers and an error, whichever -/
def RIs (D : List PeerD) (m : Nat) (e : Int) (w : World) (x : Ending) (w' : World) : Prop :=
  ∃ A c l', x = .returned (.tuple #[.slice A m c, .int .i64 e]) ∧ l'.map Prod.fst = D ∧ Peers w' w'.heap.size A m l' ∧ Below w.heap.size w w'
theorem RIs.of_no {e : Int} {w : World} {x : Ending} {w' : World} (h : AddNo e w x w') : RIs [] 0 e w x w' := ⟨none, 0, [], h.1, rfl, ⟨rfl, Reads.none_, by simp⟩, h.2⟩
theorem RIs.of_is {A : Option Addr} {l : List PeerT} {D : List PeerD} {n : Nat} {w : World} {x : Ending} {w' : World} (h : AddIs A l D n w x w') : RIs D n 0 w x w' := by
  obtain ⟨A', c, l', h1, h2, h3, h4, _⟩ := h
  exact ⟨A', c, l', h1, h2, h3, h4⟩
def zeroP : PeerT := ((ByteArray.empty, (0, 0, 0), 0, [], 0), none, 0)
theorem zero_bad : peersE [zeroP] = 3 := by decide
theorem zero_peers {W : World} {g : Nat} {t : TypeId} (h : Blk W g t #[.string ByteArray.empty, .int .i64 0, .int .i64 0, .int .i64 0, .int .i64 0, .slice none 0 0, .int .i64 0]) : Peers W W.heap.size (some ⟨g, 0, none⟩) 1 [zeroP] :=
  ⟨rfl, (Reads.of_blk h 7 1 rfl).more h.lt, fun p hp => by
    obtain rfl := List.mem_singleton.1 hp
    exact ⟨Reads.none_, Nat.le_refl _, Nat.zero_le _, Nat.zero_le _⟩⟩
theorem zchk_is (W : World) (g : Nat) (h : Blk W g 34 #[.string ⟨#[]⟩, .int .i64 0, .int .i64 0, .int .i64 0, .int .i64 0, .slice none 0 0, .int .i64 0]) :
    Calls Try.prog 7 #[.slice (some ⟨g, 0, none⟩) 1 1] W fun e w' => e = .returned (.int .i64 3) ∧ Below W.heap.size W w' :=
  pchk_is _ 1 _ 1 [zeroP] (by unfold maxLen; omega) 3 zero_bad W (zero_peers h) (Nat.le_refl _)
def AddB (A : Option Addr) (c n : Nat) (l : List PeerT) (id : ByteArray) (size first now : Int) (D : List PeerD) (m : Nat) (e : Int) : Prop :=
  ∀ B w, Peers w B A n l → B ≤ w.heap.size → Calls Try.prog 4 #[.slice A n c, .string id, .int .i64 size, .int .i64 first, .int .i64 now] w (RIs D m e w) ∧ Calls Try.prog 8 #[.slice A n c, .string id, .int .i64 size, .int .i64 first, .int .i64 now] w (RIs D m e w)
def DropB (A : Option Addr) (c n : Nat) (l : List PeerT) (id : ByteArray) (D : List PeerD) (m : Nat) (e : Int) : Prop :=
  ∀ B w, Peers w B A n l → B ≤ w.heap.size → Calls Try.prog 5 #[.slice A n c, .string id] w (RIs D m e w) ∧ Calls Try.prog 9 #[.slice A n c, .string id] w (RIs D m e w)
theorem vals64 {l : List PeerT} (h : ∀ p ∈ l, PeerGood p) : ∀ d ∈ l.map Prod.fst, d.2.2.2.1.length ≤ 64 := fun d hd => by
  obtain ⟨p, hp, rfl⟩ := List.mem_map.1 hd
  exact good64 (h p hp)
theorem add_both (A : Option Addr) (c n : Nat) (l : List PeerT) (hln : l.length = n) (hnc : n ≤ c) (hcm : c ≤ maxLen) (id : ByteArray) (hid : id.size ≤ maxLen) (size first now : Int) (he : peersE l = 0) :
    ∃ D m e, m ≤ 1000 ∧ (∀ d ∈ D, d.2.2.2.1.length ≤ 1000) ∧ AddB A c n l id size first now D m e := by
  obtain ⟨h6, hgood, hasc⟩ := peersE_zero he
  have hn6 : n ≤ 6 := by rw [← hln]; exact h6
  have hm : n ≤ maxLen := Nat.le_trans hnc hcm
  have hv := vals64 hgood
  have no : ∀ e, (∀ B w, Peers w B A n l → B ≤ w.heap.size → Calls Try.prog 4 #[.slice A n c, .string id, .int .i64 size, .int .i64 first, .int .i64 now] w (AddNo e w) ∧ Calls Try.prog 8 #[.slice A n c, .string id, .int .i64 size, .int .i64 first, .int .i64 now] w (AddNo e w)) →
      ∃ D m e, m ≤ 1000 ∧ (∀ d ∈ D, d.2.2.2.1.length ≤ 1000) ∧ AddB A c n l id size first now D m e := fun e h =>
    ⟨[], 0, e, by omega, by simp, fun B w hp hB => ⟨(h B w hp hB).1.mono fun _ _ h => .of_no h, (h B w hp hB).2.mono fun _ _ h => .of_no h⟩⟩
  cases hi : idB id
  · exact no 3 fun B w hp hB => ⟨add_id A c B n l hm id hid size first now w hp hB he hi, radd_id A c B n l hm id size first now w hp hB hi⟩
  by_cases hbad : ArgBad size first now
  · exact no 1 fun B w hp hB => ⟨add_arg A c B n l hm id hid size first now w hp hB he hi hbad, radd_arg A c B n l hm id size first now w hp hB hi hbad⟩
  have hok : 1 ≤ size ∧ size ≤ 64 ∧ wi first 0 16777216 = true ∧ 0 ≤ now ∧ now ≤ 1073741824 := by
    unfold ArgBad at hbad
    have q1 : ¬ size < 1 := fun h => hbad (.inl h)
    have q2 : ¬ 64 < size := fun h => hbad (.inr (.inl h))
    have q3 : wi first 0 16777216 = true := by
      cases hv : wi first 0 16777216
      · exact absurd (.inr (.inr (.inl ⟨by omega, by omega, hv⟩))) hbad
      · rfl
    have q4 : ¬ now < 0 := fun h => hbad (.inr (.inr (.inr (.inl ⟨by omega, by omega, q3, h⟩))))
    exact ⟨by omega, by omega, q3, by omega, Int.not_lt.1 fun h => hbad (.inr (.inr (.inr (.inr ⟨by omega, by omega, q3, by omega, h⟩))))⟩
  obtain ⟨s0, s1, hfv, n0, n1⟩ := hok
  rcases find_cases l id with ⟨k, hk, hidk⟩ | hno
  · refine no 5 fun B w hp hB => ⟨add_there A c B n l hm id hid size first now w hp hB he hi s0 s1 hfv n0 n1 k hk hidk, ?_⟩
    have hfi := rfind_some A c B n l k hk (fun j hj hjk => asc_ne hasc hj hk hjk) hm
    rw [hidk] at hfi
    exact radd_there A c B n l hm id size first now w hp hB hi s0 s1 hfv n0 n1 hn6 k hk hfi
  · by_cases h6n : n = 6
    · exact no 10 fun B w hp hB => ⟨add_full A c B n l hm id hid size first now w hp hB he hi s0 s1 hfv n0 n1 hno h6n, radd_full A c B n l hm id size first now w hp hB hi s0 s1 hfv n0 n1 h6n (rfind_none A c B n l id hno hm)⟩
    · have hm' : n ≤ 4611686018427387904 := by unfold maxLen at hm; omega
      have hex : ∃ i0, i0 ≤ n ∧ (∀ j, (hj : j < l.length) → j < i0 → lessB (pid (l[j]'hj)) id = true) ∧ (∀ j, (hj : j < l.length) → i0 ≤ j → lessB (pid (l[j]'hj)) id = false) ∧ ∀ B w, Peers w B A n l → B ≤ w.heap.size →
          Calls Try.prog 13 #[.slice A n c, .string id] w fun e w' => e = .returned (.tuple #[.int .i64 (i0 : Int), .bool false]) ∧ Below w.heap.size w w' := by
        obtain ⟨i1, h1, h2, h3, -⟩ := find_none A c 0 n l hasc id hno hln (by omega)
        refine ⟨i1, h1, h2, h3, fun B w hp hB => find_is A c B n l id i1 false h1 (by omega) h2 h3 ⟨fun h => (by cases h), fun ⟨hj, h⟩ => absurd h (hno i1 hj)⟩ w hp hB⟩
      obtain ⟨i1, h1, h2, h3, h4⟩ := hex
      refine ⟨_, n + 1, 0, by omega, ?_, fun B w hp hB => ⟨(add_ok A c B n l hm id hid size first now w hp hB he hi s0 s1 hfv n0 n1 hno (by omega) i1 h1 (fun w hp hB => h4 B w hp hB)).mono fun _ _ h => .of_is h,
        (radd_ok A c B n l hm id size first now w hp hB hi s0 s1 hfv n0 n1 (by omega) hnc hcm (rfind_none A c B n l id hno hm) i1 h1 h2 h3).mono fun _ _ h => .of_is h⟩⟩
      intro d hd
      rcases List.mem_append.1 hd with hd | hd
      · have := hv d (List.mem_of_mem_take hd); omega
      · rcases List.mem_cons.1 hd with rfl | hd
        · exact (show (1:Nat) ≤ 1000 by decide)
        · have := hv d (List.mem_of_mem_drop hd); omega
theorem drop_both (A : Option Addr) (c n : Nat) (l : List PeerT) (hln : l.length = n) (hnc : n ≤ c) (hcm : c ≤ maxLen) (id : ByteArray) (hid : id.size ≤ maxLen) (he : peersE l = 0) :
    ∃ D m e, m ≤ 1000 ∧ (∀ d ∈ D, d.2.2.2.1.length ≤ 1000) ∧ DropB A c n l id D m e := by
  obtain ⟨h6, hgood, hasc⟩ := peersE_zero he
  have hn6 : n ≤ 6 := by rw [← hln]; exact h6
  have hm : n ≤ maxLen := Nat.le_trans hnc hcm
  have hv := vals64 hgood
  rcases find_cases l id with ⟨k, hk, hidk⟩ | hno
  · refine ⟨_, n - 1, 0, by omega, ?_, fun B w hp hB => ⟨(drop_ok A c B n l hm id hid w hp hB he k hk hidk).mono fun _ _ h => .of_is h, (rdrop_ok A c B n l hm id w hp hB hn6 hnc hcm hasc k hk hidk).mono fun _ _ h => .of_is h⟩⟩
    intro d hd
    rcases List.mem_append.1 hd with hd | hd
    · have := hv d (List.mem_of_mem_take hd); omega
    · have := hv d (List.mem_of_mem_drop hd); omega
  · exact ⟨[], 0, 4, by omega, by simp, fun B w hp hB => ⟨(drop_none A c B n l hm id hid w hp hB he hno).mono fun _ _ h => .of_no h, (rdrop_none A c B n l hm id w hp hB hno).mono fun _ _ h => .of_no h⟩⟩
theorem long_of {D : List PeerD} {l1 : List PeerT} (hD : ∀ d ∈ D, d.2.2.2.1.length ≤ 1000) (h : l1.map Prod.fst = D) : ∀ p ∈ l1, (pvals p).length ≤ 100000 := fun p hp => by
  have := hD p.1 (by rw [← h]; exact List.mem_map.2 ⟨p, hp, rfl⟩)
  exact Nat.le_trans this (by omega)

set_option maxHeartbeats 1000000 in
set_option maxRecDepth 100000 in
theorem ps_err (A : Option Addr) (c B n : Nat) (l : List PeerT) (hm : n ≤ maxLen) (id : ByteArray) (hid : id.size ≤ maxLen) (size first now : Int) (e0 : Int) (he : peersE l = e0) (hz : e0 ≠ 0) (w : World) (hp : Peers w B A n l) (hB : B ≤ w.heap.size) :
    Calls Try.prog 3 #[.slice A n c, .string id, .int .i64 size, .int .i64 first, .int .i64 now] w fun e w' => e = .returned (.bool true) ∧ Below w.heap.size w w' := by
  have HP := Lib.hid hp
  have HBB := Lib.hid hB
  have HE := Lib.hid he
  have E0 := Lib.hid (Env.start w)
  clear hp hB he
  go_enter Try.func3, Try.ntmps3
  go_wp2_with fail
  refine (add_chk A c B n l hm id hid size first now _ (HP.out.below E0.out.bel HBB.out) (Nat.le_trans HBB.out E0.out.bel.size) _ HE.out hz).mono ?_
  rintro e' w1 ⟨rfl, hb1⟩
  have E1 := Lib.hid (E0.out.below hb1)
  clear hb1
  go_wp2_with fail
  refine (drop_chk A c B n l hm id hid _ (HP.out.below E1.out.bel HBB.out) (Nat.le_trans HBB.out E1.out.bel.size) _ HE.out hz).mono ?_
  rintro e' w2 ⟨rfl, hb2⟩
  have E2 := Lib.hid (E1.out.below hb2)
  clear hb2
  go_wp2_with fail
  refine (rpeers_is A c B n l hm _ HE.out _ (HP.out.below E2.out.bel HBB.out) (Nat.le_trans HBB.out E2.out.bel.size)).mono ?_
  rintro e' w3 ⟨rfl, hb3⟩
  have E3 := Lib.hid (E2.out.below hb3)
  clear hb3
  go_wp2_with fail
  refine (pchk_is A c B n l hm _ HE.out _ (HP.out.below E3.out.bel HBB.out) (Nat.le_trans HBB.out E3.out.bel.size)).mono ?_
  rintro e' w4 ⟨rfl, hb4⟩
  have E4 := Lib.hid (E3.out.below hb4)
  clear hb4
  go_wp2_with fail
  have E5 := Lib.hid (E4.out.lay #[.string ⟨#[]⟩, .int .i64 0, .int .i64 0, .int .i64 0, .int .i64 0, .slice none 0 0, .int .i64 0] 34)
  refine (zchk_is _ _ E5.out.hd).mono ?_
  rintro e' w6 ⟨rfl, hb6⟩
  have E6 := Lib.hid (E5.out.below hb6)
  clear hb6
  go_wp2
  all_goals first
    | (exfalso; omega)
    | (go_ret; exact ⟨rfl, E6.out.bel⟩)

set_option maxHeartbeats 1000000 in
set_option maxRecDepth 100000 in
theorem ps_ok (A : Option Addr) (c B n : Nat) (l : List PeerT) (hm : n ≤ maxLen) (id : ByteArray) (hid : id.size ≤ maxLen) (size first now : Int) (he : peersE l = 0) (D : List PeerD) (m : Nat) (e0 : Int) (hm1 : m ≤ 1000) (hD : ∀ d ∈ D, d.2.2.2.1.length ≤ 1000) (hA : AddB A c n l id size first now D m e0)
    (D' : List PeerD) (m' : Nat) (e1 : Int) (hm2 : m' ≤ 1000) (hD' : ∀ d ∈ D', d.2.2.2.1.length ≤ 1000) (hR : DropB A c n l id D' m' e1) (w : World) (hp : Peers w B A n l) (hB : B ≤ w.heap.size) :
    Calls Try.prog 3 #[.slice A n c, .string id, .int .i64 size, .int .i64 first, .int .i64 now] w fun e w' => e = .returned (.bool true) ∧ Below w.heap.size w w' := by
  have HP := Lib.hid hp
  have HBB := Lib.hid hB
  have HE := Lib.hid he
  have HA := Lib.hid hA
  have HR := Lib.hid hR
  have HD := Lib.hid hD
  have HD' := Lib.hid hD'
  have E0 := Lib.hid (Env.start w)
  clear hp hB he hA hR hD hD'
  go_enter Try.func3, Try.ntmps3
  go_wp2_with fail
  refine ((HA.out B _ (HP.out.below E0.out.bel HBB.out) (Nat.le_trans HBB.out E0.out.bel.size)).1).mono ?_
  rintro e' w1 ⟨A1, c1, l1, rfl, hm1', hp1, hb1⟩
  have E1 := Lib.hid (E0.out.below hb1)
  have M1 := Lib.hid hm1'
  have P1 := Lib.hid hp1
  clear hb1 hm1' hp1
  go_wp2_with fail
  refine ((HR.out B _ (HP.out.below E1.out.bel HBB.out) (Nat.le_trans HBB.out E1.out.bel.size)).1).mono ?_
  rintro e' w2 ⟨A2, c2, l2, rfl, hm2', hp2, hb2⟩
  have E2 := Lib.hid (E1.out.below hb2)
  have P1 := Lib.hid ((P1.out.below hb2 (Nat.le_refl _)).more hb2.size)
  have M2 := Lib.hid hm2'
  have P2 := Lib.hid hp2
  clear hb2 hm2' hp2
  go_wp2_with fail
  refine (rpeers_is A c B n l hm _ HE.out _ (HP.out.below E2.out.bel HBB.out) (Nat.le_trans HBB.out E2.out.bel.size)).mono ?_
  rintro e' w3 ⟨rfl, hb3⟩
  have E3 := Lib.hid (E2.out.below hb3)
  have P1 := Lib.hid ((P1.out.below hb3 (Nat.le_refl _)).more hb3.size)
  have P2 := Lib.hid ((P2.out.below hb3 (Nat.le_refl _)).more hb3.size)
  clear hb3
  go_wp2_with fail
  refine (pchk_is A c B n l hm _ HE.out _ (HP.out.below E3.out.bel HBB.out) (Nat.le_trans HBB.out E3.out.bel.size)).mono ?_
  rintro e' w4 ⟨rfl, hb4⟩
  have E4 := Lib.hid (E3.out.below hb4)
  have P1 := Lib.hid ((P1.out.below hb4 (Nat.le_refl _)).more hb4.size)
  have P2 := Lib.hid ((P2.out.below hb4 (Nat.le_refl _)).more hb4.size)
  clear hb4
  go_wp2_with fail
  have E5 := Lib.hid (E4.out.lay #[.string ⟨#[]⟩, .int .i64 0, .int .i64 0, .int .i64 0, .int .i64 0, .slice none 0 0, .int .i64 0] 34)
  have hbL := Below.alloc (Below.refl w4.heap.size w4) (Nat.le_refl _) (.cells #[.string ⟨#[]⟩, .int .i64 0, .int .i64 0, .int .i64 0, .int .i64 0, .slice none 0 0, .int .i64 0] 34)
  have P1 := Lib.hid ((P1.out.below hbL (Nat.le_refl _)).more hbL.size)
  have P2 := Lib.hid ((P2.out.below hbL (Nat.le_refl _)).more hbL.size)
  clear hbL
  refine (zchk_is _ _ E5.out.hd).mono ?_
  rintro e' w6 ⟨rfl, hb6⟩
  have E6 := Lib.hid (E5.out.below hb6)
  have P1 := Lib.hid ((P1.out.below hb6 (Nat.le_refl _)).more hb6.size)
  have P2 := Lib.hid ((P2.out.below hb6 (Nat.le_refl _)).more hb6.size)
  clear hb6
  go_wp2_with fail
  refine ((HA.out B _ (HP.out.below E6.out.bel HBB.out) (Nat.le_trans HBB.out E6.out.bel.size)).2).mono ?_
  rintro e' w7 ⟨A3, c3, l3, rfl, hm7, hp7, hb7⟩
  have E7 := Lib.hid (E6.out.below hb7)
  have P1 := Lib.hid ((P1.out.below hb7 (Nat.le_refl _)).more hb7.size)
  have P2 := Lib.hid ((P2.out.below hb7 (Nat.le_refl _)).more hb7.size)
  have M3 := Lib.hid hm7
  have P3 := Lib.hid hp7
  clear hb7 hm7 hp7
  go_wp2_with fail
  refine ((HR.out B _ (HP.out.below E7.out.bel HBB.out) (Nat.le_trans HBB.out E7.out.bel.size)).2).mono ?_
  rintro e' w8 ⟨A4, c4, l4, rfl, hm8, hp8, hb8⟩
  have E8 := Lib.hid (E7.out.below hb8)
  have P1 := Lib.hid ((P1.out.below hb8 (Nat.le_refl _)).more hb8.size)
  have P2 := Lib.hid ((P2.out.below hb8 (Nat.le_refl _)).more hb8.size)
  have P3 := Lib.hid ((P3.out.below hb8 (Nat.le_refl _)).more hb8.size)
  have M4 := Lib.hid hm8
  have P4 := Lib.hid hp8
  clear hb8 hm8 hp8
  go_wp2_with fail
  refine (same_peers A1 A3 c1 c3 _ m l1 l3 hm1 (M1.out.trans M3.out.symm) (long_of HD.out M1.out) _ P1.out P3.out (Nat.le_refl _)).mono ?_
  rintro e' w9 ⟨rfl, hb9⟩
  have E9 := Lib.hid (E8.out.below hb9)
  have P2 := Lib.hid ((P2.out.below hb9 (Nat.le_refl _)).more hb9.size)
  have P4 := Lib.hid ((P4.out.below hb9 (Nat.le_refl _)).more hb9.size)
  clear hb9
  go_wp2_with fail
  refine (same_peers A2 A4 c2 c4 _ m' l2 l4 hm2 (M2.out.trans M4.out.symm) (long_of HD'.out M2.out) _ P2.out P4.out (Nat.le_refl _)).mono ?_
  rintro e' w10 ⟨rfl, hb10⟩
  have E10 := Lib.hid (E9.out.below hb10)
  clear hb10
  go_wp2
  all_goals first
    | (exfalso; omega)
    | (go_ret; exact ⟨rfl, E10.out.bel⟩)

theorem peersSay_walk (A : Option Addr) (c : Nat) (l : List PeerT) (id : ByteArray) (size first now : Int) (w : World) (hp : Peers w w.heap.size A l.length l) (hl : l.length ≤ c ∧ c ≤ maxLen) (hid : id.size ≤ maxLen) (_ : -9223372036854775808 ≤ size) (_ : size ≤ 9223372036854775807) (_ : -9223372036854775808 ≤ first) (_ : first ≤ 9223372036854775807) (_ : -9223372036854775808 ≤ now) (_ : now ≤ 9223372036854775807) :
    Calls Try.prog 3 #[.slice A l.length c, .string id, .int .i64 size, .int .i64 first, .int .i64 now] w fun e w' => e = .returned (.bool true) ∧ Below w.heap.size w w' := by
  have hm : l.length ≤ maxLen := Nat.le_trans hl.1 hl.2
  by_cases he : peersE l = 0
  · obtain ⟨D, m, e, hm1, hD, hA⟩ := add_both A c l.length l rfl hl.1 hl.2 id hid size first now he
    obtain ⟨D', m', e', hm2, hD', hR⟩ := drop_both A c l.length l rfl hl.1 hl.2 id hid he
    exact ps_ok A c _ _ l hm id hid size first now he D m e hm1 hD hA D' m' e' hm2 hD' hR w hp (Nat.le_refl _)
  · exact ps_err A c _ _ l hm id hid size first now _ rfl he w hp (Nat.le_refl _)
end Go.Proofs.Yteojecbmmijccaa
