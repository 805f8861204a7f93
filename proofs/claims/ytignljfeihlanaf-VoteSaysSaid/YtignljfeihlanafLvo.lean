/- The law VoteSays, walked. -/
import Derived.Test.YtignljfeihlanafVoteA
import Derived.Test.YtignljfeihlanafSorted
import Derived.Deep.DeepCutAuto
namespace Go.Proofs.Ytignljfeihlanaf
open Go.RowKit
set_option linter.unusedSimpArgs false
set_option linter.unusedVariables false

theorem levels_zero {l : List Int} {k : Int} (h : levelsE l k = 0) : l.length ≤ 64 ∧ voteE l = 0 ∧ 1 ≤ k ∧ k ≤ 64 := by
  unfold levelsE at h
  unfold voteE
  split at h
  · simp at h
  · rename_i h1
    split at h
    · simp at h
    · rename_i h2
      split at h
      · rename_i h3
        have := wi_true.1 h3
        rw [if_neg h1, if_neg h2]
        exact ⟨by omega, rfl, this.1, this.2⟩
      · simp at h
theorem levels_bad {l : List Int} {k e : Int} (h : levelsE l k = e) (hz : e ≠ 0) : voteE l = e ∨ (voteE l = 0 ∧ e = 1 ∧ (k < 1 ∨ 64 < k)) := by
  unfold levelsE at h
  unfold voteE
  split at h
  · rename_i h1; rw [if_pos h1]; exact .inl h
  · rename_i h1
    rw [if_neg h1]
    split at h
    · rename_i h2; rw [if_pos h2]; exact .inl h
    · rename_i h2
      rw [if_neg h2]
      split at h
      · exact absurd h.symm hz
      · rename_i h3
        exact .inr ⟨rfl, h.symm, wi_false.1 (by simpa using h3)⟩
theorem lt_place {T : List Int} (hs : T.Pairwise (· ≤ ·)) (t : Int) (p : Nat) (hp : p < T.length) : T.getD p 0 < t ↔ p < T.countP (So.lt t) := by
  induction T generalizing p with
  | nil => simp at hp
  | cons y T ih =>
    rw [List.pairwise_cons] at hs
    by_cases hy : y < t
    · rw [List.countP_cons_of_pos (by simp [So.lt, hy])]
      cases p with
      | zero => simp [hy]
      | succ p =>
        have := ih hs.2 p (by simpa using hp)
        simp only [List.getD_cons_succ, this]
        omega
    · have e0 : T.countP (So.lt t) = 0 := So.sorted_none fun z hz => by have := hs.1 z hz; omega
      rw [List.countP_cons_of_neg (by simp [So.lt]; omega), e0]
      cases p with
      | zero => simp; omega
      | succ p =>
        have := ih hs.2 p (by simpa using hp)
        simp only [List.getD_cons_succ, this, e0]
        omega
theorem geV_both (l : List Int) (t : Int) : l.countP (geV t) + l.countP (So.lt t) = l.length := by
  induction l with
  | nil => rfl
  | cons x l ih =>
    by_cases h : t ≤ x
    · rw [List.countP_cons_of_pos (by simp [geV, h]), List.countP_cons_of_neg (by simp [So.lt]; omega), List.length_cons]; omega
    · rw [List.countP_cons_of_neg (by simp [geV]; omega), List.countP_cons_of_pos (by simp [So.lt]; omega), List.length_cons]; omega
theorem geV_place {l T : List Int} (hT : So.IsSort l T) (t : Int) (k n : Nat) (hn : l.length = n) (hk0 : 1 ≤ k) (hk : k ≤ n) : ((k : Int) ≤ (l.countP (geV t) : Nat)) ↔ t ≤ T.getD (n - k) 0 := by
  have h1 := lt_place hT.1 t (n - k) (by rw [hT.2.length_eq]; omega)
  have h2 := geV_both T t
  rw [hT.2.length_eq, hn, hT.2.countP_eq] at h2
  omega

theorem vsome_e (A : Option Addr) (c B n : Nat) (l : List Int) (k t : Int) (hn : l.length = n) (e : Int) (he : levelsE l k = e) (hz : e ≠ 0) (hm : n ≤ maxLen) (w : World) (hr : Reads w B 1 A n (cellsI l)) :
    Calls Try.prog 4 #[.slice A n c, .int .i64 k, .int .i64 t] w fun e' w' => e' = .returned (.tuple #[.bool false, .int .i64 e]) ∧ w = w' := by
  rcases levels_bad he hz with h | ⟨h, rfl, hk⟩
  · exact some_err A c B n l k t hn e h hz hm w hr
  · exact some_arg A c B n l k t hn h (by omega) hm w hr
theorem vlevel_e (A : Option Addr) (c B n : Nat) (l : List Int) (k : Int) (hn : l.length = n) (e : Int) (he : levelsE l k = e) (hz : e ≠ 0) (hm : n ≤ maxLen) (w : World) (hr : Reads w B 1 A n (cellsI l)) :
    Calls Try.prog 5 #[.slice A n c, .int .i64 k] w fun e' w' => e' = .returned (.tuple #[.int .i64 0, .int .i64 e]) ∧ w = w' := by
  rcases levels_bad he hz with h | ⟨h, rfl, hk⟩
  · exact vlevel_err A c B n l k hn e h hz hm w hr
  · exact vlevel_arg A c B n l k hn h hk hm w hr
theorem some5 (w : World) : Calls Try.prog 4 #[.slice (some ⟨w.heap.size, 0, none⟩) 1 1, .int .i64 1, .int .i64 5] (w.alloc (.cells #[.int .i64 5] 3)) fun e' w' => e' = .returned (.tuple #[.bool true, .int .i64 0]) ∧ (w.alloc (.cells #[.int .i64 5] 3)) = w' :=
  (some_ok (some ⟨w.heap.size, 0, none⟩) 1 (w.heap.size + 1) 1 [5] 1 5 rfl (by decide) (by omega) (by omega) (by omega) (by omega) (by unfold maxLen; omega) _ ((reads_blk (T := [5]) (Blk.new w 3 _) rfl).more (by simp))).mono fun e w' ⟨h, h2⟩ => ⟨by rw [h]; rfl, h2⟩

set_option maxHeartbeats 2000000 in
set_option maxRecDepth 100000 in
theorem vo_err (A : Option Addr) (c n : Nat) (l T : List Int) (k : Int) (t : Int) (hT : So.IsSort l T) (hn : l.length = n) (hm : n ≤ maxLen) (w : World) (hr : Reads w w.heap.size 1 A n (cellsI l)) (e : Int) (he : levelsE l k = e) (hz : e ≠ 0) :
    Calls Try.prog 3 #[.slice A n c, .int .i64 k, .int .i64 t] w fun e' w' => e' = .returned (.bool true) ∧ Below w.heap.size w w' := by
  have HN := Lib.hid hn
  have HE := Lib.hid he
  have HR := Lib.hid hr
  have HT := Lib.hid hT
  clear hn he hr hT
  go_enter Try.func3, Try.ntmps3
  go_wp2_with fail
  refine (vsome_e _ _ _ _ _ _ _ HN.out _ HE.out hz hm _ HR.out).mono ?_
  rintro e' w' ⟨rfl, rfl⟩
  go_wp2_with fail
  refine (vlevel_e _ _ _ _ _ _ HN.out _ HE.out hz hm _ HR.out).mono ?_
  rintro e' w' ⟨rfl, rfl⟩
  go_wp2_with fail
  refine (some5 w).mono ?_
  rintro e' w' ⟨rfl, rfl⟩
  have B2 := Lib.hid (show Below w.heap.size w (w.alloc (.cells #[.int .i64 5] 3)) from (Below.refl _ _).alloc (Nat.le_refl _) _)
  go_wp2_with fail
  refine (rlevels_is _ _ _ _ _ _ HN.out _ HE.out hm _ (HR.out.below B2.out (Nat.le_refl _))).mono ?_
  rintro e' w' ⟨rfl, rfl⟩
  go_wp2
  all_goals first
    | (exfalso; omega)
    | (go_ret; exact ⟨rfl, B2.out⟩)

set_option maxHeartbeats 2000000 in
set_option maxRecDepth 100000 in
theorem vo_none_bad (A : Option Addr) (c n : Nat) (l T : List Int) (k : Int) (t : Int) (hT : So.IsSort l T) (hn : l.length = n) (hm : n ≤ maxLen) (w : World) (hr : Reads w w.heap.size 1 A n (cellsI l)) (he : levelsE l k = 0) (hk : (n : Int) < k) (ht : t < 1 ∨ 60 < t) :
    Calls Try.prog 3 #[.slice A n c, .int .i64 k, .int .i64 t] w fun e' w' => e' = .returned (.bool true) ∧ Below w.heap.size w w' := by
  obtain ⟨h64, hv, q0, q1⟩ := levels_zero he
  rw [hn] at h64
  have HV := Lib.hid hv
  have HN := Lib.hid hn
  have HE := Lib.hid he
  have HR := Lib.hid hr
  have HT := Lib.hid hT
  clear hn he hr hT hv
  go_enter Try.func3, Try.ntmps3
  go_wp2_with fail
  refine (some_arg _ _ _ _ _ _ _ HN.out HV.out (.inr (.inr ht)) hm _ HR.out).mono ?_
  rintro e' w' ⟨rfl, rfl⟩
  go_wp2_with fail
  refine (vlevel_none _ _ _ _ _ _ HN.out HV.out q0 q1 hk hm _ HR.out).mono ?_
  rintro e' w' ⟨rfl, rfl⟩
  go_wp2_with fail
  refine (some5 w).mono ?_
  rintro e' w' ⟨rfl, rfl⟩
  have B2 := Lib.hid (show Below w.heap.size w (w.alloc (.cells #[.int .i64 5] 3)) from (Below.refl _ _).alloc (Nat.le_refl _) _)
  go_wp2_with fail
  refine (rlevels_is _ _ _ _ _ _ HN.out _ HE.out hm _ (HR.out.below B2.out (Nat.le_refl _))).mono ?_
  rintro e' w' ⟨rfl, rfl⟩
  go_wp2
  all_goals first
    | (exfalso; omega)
    | (go_ret; exact ⟨rfl, B2.out⟩)

set_option maxHeartbeats 2000000 in
set_option maxRecDepth 100000 in
theorem vo_none_ok (A : Option Addr) (c n : Nat) (l T : List Int) (k : Int) (t : Int) (hT : So.IsSort l T) (hn : l.length = n) (hm : n ≤ maxLen) (w : World) (hr : Reads w w.heap.size 1 A n (cellsI l)) (he : levelsE l k = 0) (hk : (n : Int) < k) (ht0 : 1 ≤ t) (ht1 : t ≤ 60) :
    Calls Try.prog 3 #[.slice A n c, .int .i64 k, .int .i64 t] w fun e' w' => e' = .returned (.bool true) ∧ Below w.heap.size w w' := by
  obtain ⟨h64, hv, q0, q1⟩ := levels_zero he
  rw [hn] at h64
  have HV := Lib.hid hv
  have HB := Lib.hid (show decide (k ≤ (l.countP (geV t) : Nat)) = false by have := List.countP_le_length (p := geV t) (l := l); simp; omega)
  have HN := Lib.hid hn
  have HE := Lib.hid he
  have HR := Lib.hid hr
  have HT := Lib.hid hT
  clear hn he hr hT hv
  go_enter Try.func3, Try.ntmps3
  go_wp2_with fail
  refine (some_ok _ _ _ _ _ _ _ HN.out HV.out q0 q1 ht0 ht1 hm _ HR.out).mono ?_
  rw [HB.out]
  rintro e' w' ⟨rfl, rfl⟩
  go_wp2_with fail
  refine (vlevel_none _ _ _ _ _ _ HN.out HV.out q0 q1 hk hm _ HR.out).mono ?_
  rintro e' w' ⟨rfl, rfl⟩
  go_wp2_with fail
  refine (some5 w).mono ?_
  rintro e' w' ⟨rfl, rfl⟩
  have B2 := Lib.hid (show Below w.heap.size w (w.alloc (.cells #[.int .i64 5] 3)) from (Below.refl _ _).alloc (Nat.le_refl _) _)
  go_wp2_with fail
  refine (rlevels_is _ _ _ _ _ _ HN.out _ HE.out hm _ (HR.out.below B2.out (Nat.le_refl _))).mono ?_
  rintro e' w' ⟨rfl, rfl⟩
  go_wp2
  all_goals first
    | (exfalso; omega)
    | (go_ret; exact ⟨rfl, B2.out⟩)

set_option maxHeartbeats 2000000 in
set_option maxRecDepth 100000 in
theorem vo_ok_bad (A : Option Addr) (c n : Nat) (l T : List Int) (k : Nat) (t : Int) (hT : So.IsSort l T) (hn : l.length = n) (hm : n ≤ maxLen) (w : World) (hr : Reads w w.heap.size 1 A n (cellsI l)) (he : levelsE l k = 0) (hk0 : 1 ≤ k) (hk : k ≤ n) (ht : t < 1 ∨ 60 < t) :
    Calls Try.prog 3 #[.slice A n c, .int .i64 k, .int .i64 t] w fun e' w' => e' = .returned (.bool true) ∧ Below w.heap.size w w' := by
  obtain ⟨h64, hv, q0, q1⟩ := levels_zero he
  rw [hn] at h64
  have HV := Lib.hid hv
  have HTL := Lib.hid (show T.length = n by rw [hT.2.length_eq, hn])
  obtain ⟨y, hy⟩ : ∃ y, T.getD (n - k) 0 = y := ⟨_, rfl⟩
  have HY := Lib.hid hy
  clear hy
  have HN := Lib.hid hn
  have HE := Lib.hid he
  have HR := Lib.hid hr
  have HT := Lib.hid hT
  clear hn he hr hT hv
  have ht2 : t < 1 ∨ (1 ≤ t ∧ 60 < t) := by omega
  clear ht
  rcases ht2 with ht | ⟨ht0, ht⟩
  all_goals
    go_enter Try.func3, Try.ntmps3
    go_wp2_with fail
    refine (some_arg _ _ _ _ _ _ _ HN.out HV.out (.inr (.inr (by omega))) hm _ HR.out).mono ?_
    rintro e' w' ⟨rfl, rfl⟩
    go_wp2_with fail
    refine (vlevel_ok _ _ _ _ _ _ _ HT.out HN.out HV.out hk0 hk hm _ HR.out (Nat.le_refl _)).mono ?_
    rw [HY.out]
    rintro e' w1 ⟨rfl, hb1⟩
    have B1 := Lib.hid hb1
    clear hb1
    go_wp2_with fail
    refine (some5 w1).mono ?_
    rintro e' w' ⟨rfl, rfl⟩
    have B2 := Lib.hid (show Below w.heap.size w (w1.alloc (.cells #[.int .i64 5] 3)) from B1.out.alloc B1.out.size _)
    go_wp2_with fail
    refine (rlevels_is _ _ _ _ _ _ HN.out _ HE.out hm _ (HR.out.below B2.out (Nat.le_refl _))).mono ?_
    rintro e' w' ⟨rfl, rfl⟩
    go_wp2_with fail
    refine (rsorted_any _ _ _ _ _ HT.out HN.out (by omega) _ ((HR.out.below B2.out (Nat.le_refl _)).more B2.out.size)).mono ?_
    rintro e' w3 ⟨A3, rfl, hrd3, hb3⟩
    have B3 := Lib.hid (B2.out.trans (hb3.mono B2.out.size))
    obtain ⟨b3, off3, rfl, hb3', hcells⟩ := hrd3.addr (by omega)
    have hcell := hcells (n - k) _ (cellsI_at T (n - k) (by rw [HTL.out]; omega))
    rw [HY.out] at hcell
    have hi : (n : Int) - (k : Int) = ((n - k : Nat) : Int) := by omega
    clear hcells hb3 hrd3 hb3'
    go_wp2
    all_goals first
      | (exfalso; omega)
      | (go_ret; exact ⟨rfl, B3.out⟩)

set_option maxHeartbeats 2000000 in
set_option maxRecDepth 100000 in
theorem vo_ok_ok (A : Option Addr) (c n : Nat) (l T : List Int) (k : Nat) (t : Int) (hT : So.IsSort l T) (hn : l.length = n) (hm : n ≤ maxLen) (w : World) (hr : Reads w w.heap.size 1 A n (cellsI l)) (he : levelsE l k = 0) (hk0 : 1 ≤ k) (hk : k ≤ n) (ht0 : 1 ≤ t) (ht1 : t ≤ 60) :
    Calls Try.prog 3 #[.slice A n c, .int .i64 k, .int .i64 t] w fun e' w' => e' = .returned (.bool true) ∧ Below w.heap.size w w' := by
  obtain ⟨h64, hv, q0, q1⟩ := levels_zero he
  rw [hn] at h64
  have HV := Lib.hid hv
  have HTL := Lib.hid (show T.length = n by rw [hT.2.length_eq, hn])
  obtain ⟨y, hy⟩ : ∃ y, T.getD (n - k) 0 = y := ⟨_, rfl⟩
  have HY := Lib.hid hy
  have HB := Lib.hid (show decide ((k : Int) ≤ (l.countP (geV t) : Nat)) = decide (t ≤ y) by rw [← hy]; exact decide_eq_decide.2 (geV_place hT t k n hn hk0 hk))
  clear hy
  have HN := Lib.hid hn
  have HE := Lib.hid he
  have HR := Lib.hid hr
  have HT := Lib.hid hT
  clear hn he hr hT hv
  go_enter Try.func3, Try.ntmps3
  go_wp2_with fail
  refine (some_ok _ _ _ _ _ _ _ HN.out HV.out q0 q1 ht0 ht1 hm _ HR.out).mono ?_
  rw [HB.out]
  rintro e' w' ⟨rfl, rfl⟩
  go_wp2_with fail
  refine (vlevel_ok _ _ _ _ _ _ _ HT.out HN.out HV.out hk0 hk hm _ HR.out (Nat.le_refl _)).mono ?_
  rw [HY.out]
  rintro e' w1 ⟨rfl, hb1⟩
  have B1 := Lib.hid hb1
  clear hb1
  go_wp2_with fail
  refine (some5 w1).mono ?_
  rintro e' w' ⟨rfl, rfl⟩
  have B2 := Lib.hid (show Below w.heap.size w (w1.alloc (.cells #[.int .i64 5] 3)) from B1.out.alloc B1.out.size _)
  go_wp2_with fail
  refine (rlevels_is _ _ _ _ _ _ HN.out _ HE.out hm _ (HR.out.below B2.out (Nat.le_refl _))).mono ?_
  rintro e' w' ⟨rfl, rfl⟩
  go_wp2_with fail
  refine (rsorted_any _ _ _ _ _ HT.out HN.out (by omega) _ ((HR.out.below B2.out (Nat.le_refl _)).more B2.out.size)).mono ?_
  rintro e' w3 ⟨A3, rfl, hrd3, hb3⟩
  have B3 := Lib.hid (B2.out.trans (hb3.mono B2.out.size))
  obtain ⟨b3, off3, rfl, hb3', hcells⟩ := hrd3.addr (by omega)
  have hcell := hcells (n - k) _ (cellsI_at T (n - k) (by rw [HTL.out]; omega))
  rw [HY.out] at hcell
  have hi : (n : Int) - (k : Int) = ((n - k : Nat) : Int) := by omega
  clear hcells hb3 hrd3 hb3'
  go_wp2_with fail
  refine (rsorted_any _ _ _ _ _ HT.out HN.out (by omega) _ ((HR.out.below B3.out (Nat.le_refl _)).more B3.out.size)).mono ?_
  rintro e' w4 ⟨A4, rfl, hrd4, hb4⟩
  have B4 := Lib.hid (B3.out.trans (hb4.mono B3.out.size))
  obtain ⟨b4, off4, rfl, hb4', hcells⟩ := hrd4.addr (by omega)
  have hcell4 := hcells (n - k) _ (cellsI_at T (n - k) (by rw [HTL.out]; omega))
  rw [HY.out] at hcell4
  have hmin : min (k : Int) (n : Int) = (k : Int) := by omega
  clear hcells hb4 hrd4 hb4'
  go_wp2
  all_goals first
    | (exfalso; omega)
    | (go_ret; exact ⟨rfl, B4.out⟩)

theorem voteSays_walk (A : Option Addr) (c : Nat) (l : List Int) (k t : Int) (w : World) (hr : Reads w w.heap.size 1 A l.length (cellsI l)) (hb : l.length ≤ c ∧ c ≤ maxLen) :
    Calls Try.prog 3 #[.slice A l.length c, .int .i64 k, .int .i64 t] w fun e' w' => e' = .returned (.bool true) ∧ Below w.heap.size w w' := by
  have hm : l.length ≤ maxLen := Nat.le_trans hb.1 hb.2
  by_cases he : levelsE l k = 0
  · obtain ⟨h64, hv, q0, q1⟩ := levels_zero he
    by_cases hk : (l.length : Int) < k
    · by_cases ht : 1 ≤ t ∧ t ≤ 60
      · exact vo_none_ok A c _ l _ k t (So.srt_is l) rfl hm w hr he hk ht.1 ht.2
      · exact vo_none_bad A c _ l _ k t (So.srt_is l) rfl hm w hr he hk (by omega)
    · obtain ⟨m, rfl⟩ : ∃ d : Nat, k = d := ⟨k.toNat, by omega⟩
      by_cases ht : 1 ≤ t ∧ t ≤ 60
      · exact vo_ok_ok A c _ l _ m t (So.srt_is l) rfl hm w hr he (by omega) (by omega) ht.1 ht.2
      · exact vo_ok_bad A c _ l _ m t (So.srt_is l) rfl hm w hr he (by omega) (by omega) (by omega)
  · exact vo_err A c _ l _ k t (So.srt_is l) rfl hm w hr _ rfl he
end Go.Proofs.Ytignljfeihlanaf
