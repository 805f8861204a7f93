/- The law PeersHear, walked. -/
import Derived.Test.YtnhfofphfbnmhaaPeRhN
import Derived.Test.YtnhfofphfbnmhaaPeHearN
namespace Go.Proofs.Ytnhfofphfbnmhaa
open Go.RowKit Go.Lib
set_option linter.unusedSimpArgs false
set_option linter.unusedVariables false

theorem peers_nil (w : World) (B : Nat) : Peers w B none 0 [] := ⟨rfl, Reads.none_, by simp⟩
theorem hear_nil (w : World) : Calls Try.prog 4 #[.slice none 0 0, .agg #[.string ByteArray.empty, .int .i64 0, .int .i64 0], .int .i64 0] w (HearNo 3 w) :=
  hear_beat none 0 0 0 [] (by decide) ByteArray.empty (by unfold maxLen; decide) 0 0 0 w (peers_nil w 0) (Nat.zero_le _) (by decide) 3 (by decide) (by decide)
def HearB (A : Option Addr) (c n : Nat) (l : List PeerT) (bid : ByteArray) (inc seq now : Int) (post : World → Ending → World → Prop) : Prop :=
  ∀ B w, Peers w B A n l → B ≤ w.heap.size → Calls Try.prog 4 #[.slice A n c, .agg #[.string bid, .int .i64 inc, .int .i64 seq], .int .i64 now] w (post w) ∧ Calls Try.prog 6 #[.slice A n c, .agg #[.string bid, .int .i64 inc, .int .i64 seq], .int .i64 now] w (post w)
/-- both answer the same -/
theorem hear_both (A : Option Addr) (c n : Nat) (l : List PeerT) (hln : l.length = n) (bid : ByteArray) (hbid : bid.size ≤ maxLen) (inc seq now : Int) (he : peersE l = 0) :
    (∃ e, e ≠ 0 ∧ HearB A c n l bid inc seq now (HearNo e)) ∨ (∃ D is, D.length = n ∧ (∀ d ∈ D, d.2.2.2.1.length ≤ 1000) ∧ HearB A c n l bid inc seq now (HearIs D n is)) := by
  obtain ⟨h6, hgood, hasc⟩ := peersE_zero he
  have hn6 : n ≤ 6 := by rw [← hln]; exact h6
  have hm : n ≤ maxLen := by unfold maxLen; omega
  by_cases hb : beatE bid inc seq = 0
  case neg => exact .inl ⟨_, hb, fun B w hp hB => ⟨hear_beat A c B n l hm bid hbid inc seq now w hp hB he _ rfl hb, rhear_beat A c B n l hm bid inc seq now w hp hB _ rfl hb⟩⟩
  by_cases hn : now < 0 ∨ 1073741824 < now
  · exact .inl ⟨1, by decide, fun B w hp hB => ⟨hear_now A c B n l hm bid hbid inc seq now w hp hB he hb hn, rhear_now A c B n l hm bid inc seq now w hp hB hb hn⟩⟩
  have hn0 : 0 ≤ now := by omega
  have hn1 : now ≤ 1073741824 := by omega
  rcases find_cases l bid with ⟨k, hk, hid⟩ | hno
  case inr => exact .inl ⟨4, by decide, fun B w hp hB => ⟨hear_none A c B n l hm bid hbid inc seq now w hp hB he hb hn0 hn1 hno, rhear_none A c B n l hm bid inc seq now w hp hB hb hn0 hn1 hno⟩⟩
  by_cases hlt : now < plast (l[k]'hk)
  · exact .inl ⟨1, by decide, fun B w hp hB => ⟨hear_late A c B n l hm bid hbid inc seq now w hp hB he hb hn0 hn1 k hk hid hlt, rhear_late A c B n l hm bid inc seq now w hp hB hb hn0 hn1 hgood hasc hn6 k hk hid hlt⟩⟩
  have hge : plast (l[k]'hk) ≤ now := by omega
  have h64 : ∀ d ∈ l.map Prod.fst, d.2.2.2.1.length ≤ 64 := fun d hd => by
    obtain ⟨p, hp, rfl⟩ := List.mem_map.1 hd
    exact good64 (hgood p hp)
  have hkm := h64 _ (List.mem_map.2 ⟨_, List.getElem_mem hk, rfl⟩)
  by_cases hnw : Newer (pgi (l[k]'hk)) (pgs (l[k]'hk)) inc seq
  · refine .inr ⟨_, true, by simp [hln], ?_, fun B w hp hB => ⟨hear_new A c B n l hm bid hbid inc seq now w hp hB he hb hn0 hn1 k hk hid hge hnw, rhear_new A c B n l hm bid inc seq now w hp hB hb hn0 hn1 hgood hasc hn6 k hk hid hge hnw⟩⟩
    intro d hd
    rcases List.mem_or_eq_of_mem_set hd with hd | rfl
    · have := h64 d hd; omega
    · simp only [newD, pushV]
      split <;> simp <;> omega
  · refine .inr ⟨_, false, by simp [hln], ?_, fun B w hp hB => ⟨hear_old A c B n l hm bid hbid inc seq now w hp hB he hb hn0 hn1 k hk hid hge hnw, rhear_old A c B n l hm bid inc seq now w hp hB hb hn0 hn1 hgood hasc hn6 k hk hid hge hnw⟩⟩
    intro d hd
    rcases List.mem_or_eq_of_mem_set hd with hd | rfl
    · have := h64 d hd; omega
    · simp only [oldD]; omega

set_option maxHeartbeats 4000000 in
set_option maxRecDepth 100000 in
theorem ph_err (A : Option Addr) (c B n : Nat) (l : List PeerT) (hm : n ≤ maxLen) (bid : ByteArray) (hbid : bid.size ≤ maxLen) (inc seq now : Int) (e0 : Int) (he : peersE l = e0) (hz : e0 ≠ 0) (w : World) (hp : Peers w B A n l) (hB : B ≤ w.heap.size) :
    Calls Try.prog 3 #[.slice A n c, .agg #[.string bid, .int .i64 inc, .int .i64 seq], .int .i64 now] w fun e w' => e = .returned (.bool true) ∧ Below w.heap.size w w' := by
  have HP := Lib.hid hp
  have HBB := Lib.hid hB
  have HE := Lib.hid he
  have E := Lib.hid ((Env.start w).lay #[.string bid, .int .i64 inc, .int .i64 seq] 24)
  clear hp hB he
  go_enter Try.func3, Try.ntmps3
  go_wp2_with fail
  refine (hear_chk A c B n l hm bid hbid inc seq now _ (HP.out.below E.out.bel HBB.out) (Nat.le_trans HBB.out E.out.bel.size) _ HE.out hz).mono ?_
  rintro e' w1 ⟨rfl, hb1⟩
  have E1 := Lib.hid (E.out.below hb1)
  clear hb1
  go_wp2_with fail
  refine (hear_nil _).mono ?_
  rintro e' w2 ⟨rfl, hb2⟩
  have E2 := Lib.hid (E1.out.below hb2)
  clear hb2
  go_wp2_with fail
  refine (rpeers_is A c B n l hm _ HE.out _ (HP.out.below E2.out.bel HBB.out) (Nat.le_trans HBB.out E2.out.bel.size)).mono ?_
  rintro e' w3 ⟨rfl, hb3⟩
  have E3 := Lib.hid (E2.out.below hb3)
  clear hb3
  go_wp2
  all_goals first
    | (exfalso; omega)
    | (go_ret; exact ⟨rfl, E3.out.bel⟩)

set_option maxHeartbeats 4000000 in
set_option maxRecDepth 100000 in
theorem ph_no (A : Option Addr) (c B n : Nat) (l : List PeerT) (hm : n ≤ maxLen) (bid : ByteArray) (hbid : bid.size ≤ maxLen) (inc seq now : Int) (he : peersE l = 0) (e : Int) (hz : e ≠ 0) (hh : HearB A c n l bid inc seq now (HearNo e)) (w : World) (hp : Peers w B A n l) (hB : B ≤ w.heap.size) :
    Calls Try.prog 3 #[.slice A n c, .agg #[.string bid, .int .i64 inc, .int .i64 seq], .int .i64 now] w fun e w' => e = .returned (.bool true) ∧ Below w.heap.size w w' := by
  have HP := Lib.hid hp
  have HBB := Lib.hid hB
  have HE := Lib.hid he
  have HH := Lib.hid hh
  have E := Lib.hid ((Env.start w).lay #[.string bid, .int .i64 inc, .int .i64 seq] 24)
  clear hp hB he hh
  go_enter Try.func3, Try.ntmps3
  go_wp2_with fail
  refine ((HH.out B _ (HP.out.below E.out.bel HBB.out) (Nat.le_trans HBB.out E.out.bel.size)).1).mono ?_
  rintro e' w1 ⟨rfl, hb1⟩
  have E1 := Lib.hid (E.out.below hb1)
  clear hb1
  go_wp2_with fail
  refine (hear_nil _).mono ?_
  rintro e' w2 ⟨rfl, hb2⟩
  have E2 := Lib.hid (E1.out.below hb2)
  clear hb2
  go_wp2_with fail
  refine (rpeers_is A c B n l hm _ HE.out _ (HP.out.below E2.out.bel HBB.out) (Nat.le_trans HBB.out E2.out.bel.size)).mono ?_
  rintro e' w3 ⟨rfl, hb3⟩
  have E3 := Lib.hid (E2.out.below hb3)
  clear hb3
  have a0 := E3.out.hd.cell 0
  have a1 := E3.out.hd.cell 1
  have a2 := E3.out.hd.cell 2
  simp at a0 a1 a2
  go_wp2_with fail
  refine ((HH.out B _ (HP.out.below E3.out.bel HBB.out) (Nat.le_trans HBB.out E3.out.bel.size)).2).mono ?_
  rintro e' w4 ⟨rfl, hb4⟩
  have E4 := Lib.hid (E3.out.below hb4)
  clear hb4 a0 a1 a2
  go_wp2_with fail
  refine (same_peers none none 0 0 0 0 [] [] (by omega) rfl (by simp) _ (peers_nil _ _) (peers_nil _ _) (Nat.zero_le _)).mono ?_
  rintro e' w5 ⟨rfl, hb5⟩
  have E5 := Lib.hid (E4.out.below hb5)
  clear hb5
  go_wp2
  all_goals first
    | (exfalso; omega)
    | (go_ret; exact ⟨rfl, E5.out.bel⟩)

set_option maxHeartbeats 4000000 in
set_option maxRecDepth 100000 in
theorem ph_is (A : Option Addr) (c B n : Nat) (l : List PeerT) (hm : n ≤ 1000) (bid : ByteArray) (hbid : bid.size ≤ maxLen) (inc seq now : Int) (he : peersE l = 0) (D : List PeerD) (is : Bool) (hD : ∀ d ∈ D, d.2.2.2.1.length ≤ 1000) (hh : HearB A c n l bid inc seq now (HearIs D n is)) (w : World) (hp : Peers w B A n l) (hB : B ≤ w.heap.size) :
    Calls Try.prog 3 #[.slice A n c, .agg #[.string bid, .int .i64 inc, .int .i64 seq], .int .i64 now] w fun e w' => e = .returned (.bool true) ∧ Below w.heap.size w w' := by
  have HP := Lib.hid hp
  have HBB := Lib.hid hB
  have HE := Lib.hid he
  have HH := Lib.hid hh
  have HD := Lib.hid hD
  have E := Lib.hid ((Env.start w).lay #[.string bid, .int .i64 inc, .int .i64 seq] 24)
  clear hp hB he hh hD
  go_enter Try.func3, Try.ntmps3
  go_wp2_with fail
  refine ((HH.out B _ (HP.out.below E.out.bel HBB.out) (Nat.le_trans HBB.out E.out.bel.size)).1).mono ?_
  rintro e' w1 ⟨A1, c1, l1, rfl, hm1, hp1, hb1⟩
  have E1 := Lib.hid (E.out.below hb1)
  have M1 := Lib.hid hm1
  have P1 := Lib.hid hp1
  clear hb1 hm1 hp1
  go_wp2_with fail
  refine (hear_nil _).mono ?_
  rintro e' w2 ⟨rfl, hb2⟩
  have E2 := Lib.hid (E1.out.below hb2)
  have P2 := Lib.hid (P1.out.below hb2 (Nat.le_refl _))
  have S2 := Lib.hid hb2.size
  clear hb2
  go_wp2_with fail
  refine (rpeers_is A c B n l (by unfold maxLen; omega) _ HE.out _ (HP.out.below E2.out.bel HBB.out) (Nat.le_trans HBB.out E2.out.bel.size)).mono ?_
  rintro e' w3 ⟨rfl, hb3⟩
  have E3 := Lib.hid (E2.out.below hb3)
  have P3 := Lib.hid (P2.out.below hb3 S2.out)
  have S3 := Lib.hid (Nat.le_trans S2.out hb3.size)
  clear hb3
  have a0 := E3.out.hd.cell 0
  have a1 := E3.out.hd.cell 1
  have a2 := E3.out.hd.cell 2
  simp at a0 a1 a2
  go_wp2_with fail
  refine ((HH.out B _ (HP.out.below E3.out.bel HBB.out) (Nat.le_trans HBB.out E3.out.bel.size)).2).mono ?_
  rintro e' w4 ⟨A4, c4, l4, rfl, hm4, hp4, hb4⟩
  have E4 := Lib.hid (E3.out.below hb4)
  have P4 := Lib.hid (P3.out.below hb4 S3.out)
  have S4 := Lib.hid (Nat.le_trans S3.out hb4.size)
  have M4 := Lib.hid hm4
  have Q4 := Lib.hid hp4
  clear hb4 a0 a1 a2 hm4 hp4
  have H64 := Lib.hid (show ∀ p ∈ l1, (pvals p).length ≤ 100000 from fun p hp => by
    have := HD.out p.1 (by rw [← M1.out]; exact List.mem_map.2 ⟨p, hp, rfl⟩)
    exact Nat.le_trans this (by omega))
  cases is
  all_goals
    go_wp2_with fail
    refine (same_peers A1 A4 c1 c4 _ n l1 l4 hm (M1.out.trans M4.out.symm) H64.out _ (P4.out.more S4.out) Q4.out (Nat.le_refl _)).mono ?_
    rintro e' w5 ⟨rfl, hb5⟩
    have E5 := Lib.hid (E4.out.below hb5)
    clear hb5
    go_wp2
    all_goals first
      | (exfalso; omega)
      | (go_ret; exact ⟨rfl, E5.out.bel⟩)

theorem peersHear_walk (A : Option Addr) (c : Nat) (l : List PeerT) (bid : ByteArray) (inc seq now : Int) (w : World) (hp : Peers w w.heap.size A l.length l) (hl : l.length ≤ c ∧ c ≤ maxLen) (hbid : bid.size ≤ maxLen) (h0 : -9223372036854775808 ≤ now) (h1 : now ≤ 9223372036854775807) :
    Calls Try.prog 3 #[.slice A l.length c, .agg #[.string bid, .int .i64 inc, .int .i64 seq], .int .i64 now] w fun e w' => e = .returned (.bool true) ∧ Below w.heap.size w w' := by
  have hm : l.length ≤ maxLen := Nat.le_trans hl.1 hl.2
  by_cases he : peersE l = 0
  · have h6 := (peersE_zero he).1
    rcases hear_both A c l.length l rfl bid hbid inc seq now he with ⟨e, hz, hh⟩ | ⟨D, is, _, hD, hh⟩
    · exact ph_no A c _ _ l hm bid hbid inc seq now he e hz hh w hp (Nat.le_refl _)
    · exact ph_is A c _ _ l (by omega) bid hbid inc seq now he D is hD hh w hp (Nat.le_refl _)
  · exact ph_err A c _ _ l hm bid hbid inc seq now _ rfl he w hp (Nat.le_refl _)
end Go.Proofs.Ytnhfofphfbnmhaa
