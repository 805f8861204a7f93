/- slices.Equal over subs and over strings, walked where both are the same; node.Subs. (with what it needs) -/
import Derived.Test.YtcikljcjhijjdaaGreatM39
import Derived.Test.YtcikljcjhijjdaaGreatM46
import Derived.Test.YtcikljcjhijjdaaGreatM43
import Derived.Test.YtcikljcjhijjdaaGreatM41
import Derived.Test.YtcikljcjhijjdaaGreatM45
namespace Go.Proofs.YtcikljcjhijjdaaGreat
open Go.RowKit Go.Lib
set_option linter.unusedSimpArgs false
set_option linter.unusedVariables false

set_option maxHeartbeats 1000000 in
set_option maxRecDepth 100000 in
theorem eqs_same (A A' : Option Addr) (c c' B n : Nat) (l : List TriD) (hl : l.length = n) (hm : n ≤ 1000) (w : World) (hp : Reads w B 3 A n (cells3 l)) (hp' : Reads w B 3 A' n (cells3 l)) (hB : B ≤ w.heap.size) :
    Calls Tryz.prog 31 #[.slice A n c, .slice A' n c'] w fun e w' => e = .returned (.bool true) ∧ Below w.heap.size w w' := by
  have HP := Lib.hid hp
  have HP' := Lib.hid hp'
  have HN := Lib.hid hl
  have HBB := Lib.hid hB
  clear hp hp' hl hB
  go_enter Tryz.func31, Tryz.ntmps31
  go_wp2_with fail
  go_loopw [13] (fun iv wr => ∃ k : Nat, k ≤ n ∧ iv = .int .i64 (k : Int) ∧ Below w.heap.size w wr) (fun iv _ => n - (RowKit.intOf iv).toNat)
  case atStart => exact ⟨0, by omega, rfl, Below.refl _ _⟩
  case round =>
    obtain ⟨k, hk, rfl, hbl⟩ := hrel
    obtain ⟨wo, rfl⟩ : ∃ wo, wo = wr := ⟨_, rfl⟩
    have BL := Lib.hid hbl
    clear hbl
    by_cases hlt : k < n
    · have hkl : k < l.length := by rw [HN.out]; exact hlt
      obtain ⟨b, off, rfl, hb, hcs⟩ := tri_addr (HP.out.below BL.out HBB.out) HN.out (by omega)
      obtain ⟨b', off', rfl, hb', hcs'⟩ := tri_addr (HP'.out.below BL.out HBB.out) HN.out (by omega)
      obtain ⟨c0, c1, c2⟩ := hcs k hkl
      obtain ⟨d0, d1, d2⟩ := hcs' k hkl
      generalize l[k]'hkl = p at *
      have hb2 : b' < wo.heap.size := Nat.lt_of_lt_of_le hb' (Nat.le_trans HBB.out BL.out.size)
      have hb1 : b < wo.heap.size := Nat.lt_of_lt_of_le hb (Nat.le_trans HBB.out BL.out.size)
      clear hcs hcs'
      go_wp2_with fail
      go_region
      all_goals
        go_wp2
        exact ⟨⟨k + 1, by omega, by simp, by first | exact BL.out | exact BL.out.drew⟩, by simp [RowKit.intOf]; omega⟩
    · go_wp2
      go_ret
      exact ⟨rfl, BL.out⟩

set_option maxHeartbeats 1000000 in
set_option maxRecDepth 100000 in
theorem eqt_same (A A' : Option Addr) (c c' B n : Nat) (l : List ByteArray) (hl : l.length = n) (hm : n ≤ 1000) (w : World) (hp : Reads w B 1 A n (cellsTx l)) (hp' : Reads w B 1 A' n (cellsTx l)) (hB : B ≤ w.heap.size) :
    Calls Tryz.prog 12 #[.slice A n c, .slice A' n c'] w fun e w' => e = .returned (.bool true) ∧ Below w.heap.size w w' := by
  have HP := Lib.hid hp
  have HP' := Lib.hid hp'
  have HN := Lib.hid hl
  have HBB := Lib.hid hB
  clear hp hp' hl hB
  go_enter Tryz.func12, Tryz.ntmps12
  go_wp2_with fail
  go_loopw [13] (fun iv wr => ∃ k : Nat, k ≤ n ∧ iv = .int .i64 (k : Int) ∧ Below w.heap.size w wr) (fun iv _ => n - (RowKit.intOf iv).toNat)
  case atStart => exact ⟨0, by omega, rfl, Below.refl _ _⟩
  case round =>
    obtain ⟨k, hk, rfl, hbl⟩ := hrel
    obtain ⟨wo, rfl⟩ : ∃ wo, wo = wr := ⟨_, rfl⟩
    have BL := Lib.hid hbl
    clear hbl
    by_cases hlt : k < n
    · have hkl : k < l.length := by rw [HN.out]; exact hlt
      obtain ⟨b, off, rfl, hb, hcs⟩ := (HP.out.below BL.out HBB.out).addr (by omega)
      obtain ⟨b', off', rfl, hb', hcs'⟩ := (HP'.out.below BL.out HBB.out).addr (by omega)
      have c0 := hcs k (.string (l[k]'hkl)) (by simp [cellsTx, hkl])
      have d0 := hcs' k (.string (l[k]'hkl)) (by simp [cellsTx, hkl])
      generalize l[k]'hkl = p at *
      have hb2 : b' < wo.heap.size := Nat.lt_of_lt_of_le hb' (Nat.le_trans HBB.out BL.out.size)
      have hb1 : b < wo.heap.size := Nat.lt_of_lt_of_le hb (Nat.le_trans HBB.out BL.out.size)
      clear hcs hcs'
      go_wp2_with fail
      go_region
      all_goals
        go_wp2
        exact ⟨⟨k + 1, by omega, by simp, by first | exact BL.out | exact BL.out.drew⟩, by simp [RowKit.intOf]; omega⟩
    · go_wp2
      go_ret
      exact ⟨rfl, BL.out⟩

/-- subs, copied -/
def NewSubs (S : List TriD) (w : World) (e : Ending) (w' : World) : Prop := ∃ A c, e = .returned (.slice A S.length c) ∧ w'.ownsRow w.heap.size 58 3 (.slice A S.length c) S.length (cells3 S) ∧ Below w.heap.size w w'
theorem sub_info2 : (Tryz.prog.info? 58).map (fun i => (i.zero, i.size, i.bytes)) = some (some (.agg #[.string ByteArray.empty, .int .i64 0, .bool false]), 3, 32) := by kernel_rfl
set_option maxHeartbeats 1000000 in
set_option maxRecDepth 100000 in
theorem clones_nil (w : World) :
    Calls Tryz.prog 67 #[.slice none 0 0] w fun e w' => e = .returned (.slice none 0 0) ∧ Below w.heap.size w w' := by
  have hnil := fun w => Lib.run_eql_slice_nil (P := Tryz.prog) w 34 58 none 0 0 0 0 Tryz.underlying34
  go_enter Tryz.func67, Tryz.ntmps67
  go_wp2
  go_ret
  exact ⟨rfl, Below.refl _ _⟩
set_option maxHeartbeats 1000000 in
set_option maxRecDepth 100000 in
theorem clones_run (g cap n : Nat) (S : List TriD) (hn : S.length = n) (hm : n ≤ 1000) (w : World) (hs : Row3 58 w g cap n S) :
    Calls Tryz.prog 67 #[.slice (some ⟨g, 0, none⟩) n cap] w (NewSubs S w) := by
  obtain ⟨i0, hi, hz0, hz1, hz2⟩ := info_parts sub_info2
  have HN := Lib.hid hn
  have hr : Reads w w.heap.size 3 (some ⟨g, 0, none⟩) n (cells3 S) := Reads.of_own (hs.own (base := 0) (Nat.zero_le _))
  have HR := Lib.hid hr
  clear hs hr hn
  have HO := Lib.hid (show (w.alloc (.cells #[] 58)).ownsRow w.heap.size 58 3 (.slice (some ⟨w.heap.size, 0, none⟩) 0 0) 0 [] from ⟨rfl, .inr ⟨w.heap.size, 0, #[], rfl, Nat.le_refl _, Blk.new _ _ _, Nat.le_refl _, Nat.zero_le _, rfl, rfl⟩⟩)
  have HR2 := Lib.hid (HR.out.alloc (Nat.le_refl _) (.cells #[] 58))
  have hnil := fun w => Lib.run_eql_slice_nil (P := Tryz.prog) w 34 58 (some ⟨g, 0, none⟩) n cap 0 0 Tryz.underlying34
  go_enter Tryz.func67, Tryz.ntmps67
  go_wp2_with (at_builtin; refine wpList_appN _ rfl _ _ 34 rfl w.heap.size 58 i0 _ 3 32 Tryz.underlying34 hi hz0 hz1 hz2 rfl (by decide) _ _ _ rfl HO.out _ _ _ _ _ rfl HR2.out (oneCell_3 S) ?c1 ?c2 ?c3 ?_)
  case c1 => unfold maxLen; omega
  case c2 => omega
  case c3 => first | omega | simp
  intro v' w' hown hb
  try simp only [Nat.zero_add, List.nil_append] at hown
  obtain ⟨A9, c9, rfl⟩ := ownsRow_len hown
  have FIN := Lib.hid (show NewSubs S w (.returned (.slice A9 n c9)) w' from ⟨A9, c9, by rw [HN.out], by rw [HN.out]; exact hown, ((Below.refl _ _).alloc (Nat.le_refl _) _).trans hb⟩)
  clear hown hb
  go_wp2
  go_ret
  exact FIN.out
theorem clones_any (sv : Value) (S : List TriD) (hm : S.length ≤ 1000) (w : World) (hs : (sv = .slice none 0 0 ∧ S = []) ∨ ∃ g cap n, sv = .slice (some ⟨g, 0, none⟩) n cap ∧ Row3 58 w g cap n S) :
    Calls Tryz.prog 67 #[sv] w (NewSubs S w) := by
  rcases hs with ⟨rfl, rfl⟩ | ⟨g, cap, n, rfl, h⟩
  · exact (clones_nil w).mono fun e w' ⟨h1, h2⟩ => ⟨none, 0, h1, World.ownsRow_nil _ _ _ _, h2⟩
  · exact clones_run g cap n S h.1 (by rw [← h.1]; exact hm) w h
end Go.Proofs.YtcikljcjhijjdaaGreat

namespace Go.Proofs.YtcikljcjhijjdaaGreat
open Go.RowKit Go.Lib
set_option linter.unusedSimpArgs false
set_option linter.unusedVariables false

def cfgV (c : CfgD) : Value := .agg #[.string c.1, .int .i64 (cfi c), .int .i64 (cfe c), .int .i64 (cfc c), .int .i64 (cfl c)]
def CfgBad (i e c l : Int) : Prop := i < 0 ∨ (0 ≤ i ∧ 2147483647 < i) ∨ (0 ≤ i ∧ i ≤ 2147483647 ∧ e < 1) ∨ (0 ≤ i ∧ i ≤ 2147483647 ∧ 1 ≤ e ∧ wi e 0 16777216 = false) ∨ (0 ≤ i ∧ i ≤ 2147483647 ∧ 1 ≤ e ∧ wi e 0 16777216 = true ∧ c < 1) ∨
  (0 ≤ i ∧ i ≤ 2147483647 ∧ 1 ≤ e ∧ wi e 0 16777216 = true ∧ 1 ≤ c ∧ 64 < c) ∨ (0 ≤ i ∧ i ≤ 2147483647 ∧ 1 ≤ e ∧ wi e 0 16777216 = true ∧ 1 ≤ c ∧ c ≤ 64 ∧ l < 1) ∨ (0 ≤ i ∧ i ≤ 2147483647 ∧ 1 ≤ e ∧ wi e 0 16777216 = true ∧ 1 ≤ c ∧ c ≤ 64 ∧ 1 ≤ l ∧ wi l 0 16777216 = false)
instance (c : CfgD) : Decidable (CfgIn c) := by unfold CfgIn; infer_instance
def cfgE (c : CfgD) : Int := if idB c.1 = true then (if CfgIn c then 0 else 1) else 3
theorem cfgE_zero {c : CfgD} (h : cfgE c = 0) : idB c.1 = true ∧ CfgIn c := by
  unfold cfgE at h
  split at h
  · rename_i h1
    split at h
    · rename_i h2; exact ⟨h1, h2⟩
    · cases h
  · cases h
theorem cfg_bad {c : CfgD} (h : ¬ CfgIn c) : CfgBad (cfi c) (cfe c) (cfc c) (cfl c) := by
  unfold CfgBad
  by_cases h1 : cfi c < 0
  · exact .inl h1
  by_cases h2 : 2147483647 < cfi c
  · exact .inr (.inl ⟨by omega, h2⟩)
  by_cases h3 : cfe c < 1
  · exact .inr (.inr (.inl ⟨by omega, by omega, h3⟩))
  cases h4 : wi (cfe c) 0 16777216
  · exact .inr (.inr (.inr (.inl ⟨by omega, by omega, by omega, rfl⟩)))
  by_cases h5 : cfc c < 1
  · exact .inr (.inr (.inr (.inr (.inl ⟨by omega, by omega, by omega, rfl, h5⟩))))
  by_cases h6 : 64 < cfc c
  · exact .inr (.inr (.inr (.inr (.inr (.inl ⟨by omega, by omega, by omega, rfl, by omega, h6⟩)))))
  by_cases h7 : cfl c < 1
  · exact .inr (.inr (.inr (.inr (.inr (.inr (.inl ⟨by omega, by omega, by omega, rfl, by omega, by omega, h7⟩))))))
  cases h8 : wi (cfl c) 0 16777216
  · exact .inr (.inr (.inr (.inr (.inr (.inr (.inr ⟨by omega, by omega, by omega, rfl, by omega, by omega, by omega, rfl⟩))))))
  · exfalso
    apply h
    have := wi_true.1 h4
    have := wi_true.1 h8
    unfold CfgIn
    omega

set_option maxHeartbeats 1000000 in
set_option maxRecDepth 100000 in
theorem cfg_id (c : CfgD) (hs : c.1.size ≤ maxLen) (hi : idB c.1 = false) (w : World) :
    Calls Tryz.prog 7 #[cfgV c] w fun e w' => e = .returned (.int .i64 3) ∧ Below w.heap.size w w' := by
  have E := Lib.hid ((Env.start w).lay #[.string c.1, .int .i64 (cfi c), .int .i64 (cfe c), .int .i64 (cfc c), .int .i64 (cfl c)] 23)
  have HI := Lib.hid hi
  unfold cfgV
  clear hi
  go_enter Tryz.func7, Tryz.ntmps7
  go_wp2_with fail
  refine (bid_any c.1 hs _).mono ?_
  rw [HI.out]
  rintro e' w' ⟨rfl, rfl⟩
  go_wp2
  go_ret
  exact ⟨rfl, E.out.bel⟩

set_option maxHeartbeats 2000000 in
set_option maxRecDepth 100000 in
theorem cfg_arg (c : CfgD) (hs : c.1.size ≤ maxLen) (hi : idB c.1 = true) (hbad : CfgBad (cfi c) (cfe c) (cfc c) (cfl c)) (w : World) :
    Calls Tryz.prog 7 #[cfgV c] w fun e w' => e = .returned (.int .i64 1) ∧ Below w.heap.size w w' := by
  have E := Lib.hid ((Env.start w).lay #[.string c.1, .int .i64 (cfi c), .int .i64 (cfe c), .int .i64 (cfc c), .int .i64 (cfl c)] 23)
  have HI := Lib.hid hi
  unfold cfgV
  clear hi
  obtain ⟨be, hbe⟩ : ∃ b, wi (cfe c) 0 16777216 = b := ⟨_, rfl⟩
  obtain ⟨bl, hbl⟩ : ∃ b, wi (cfl c) 0 16777216 = b := ⟨_, rfl⟩
  have HVE := Lib.hid hbe
  have HVL := Lib.hid hbl
  unfold CfgBad at hbad
  rw [hbe, hbl] at hbad
  clear hbe hbl
  generalize cfi c = vi at *
  generalize cfe c = ve at *
  generalize cfc c = vc at *
  generalize cfl c = vl at *
  rcases hbad with h | ⟨h1, h⟩ | ⟨h1, h2, h⟩ | ⟨h1, h2, h3, hv⟩ | ⟨h1, h2, h3, hv, h⟩ | ⟨h1, h2, h3, hv, h4, h⟩ | ⟨h1, h2, h3, hv, h4, h5, h⟩ | ⟨h1, h2, h3, hv, h4, h5, h6, hw⟩
  all_goals
    try subst hw
    try subst hv
    go_enter Tryz.func7, Tryz.ntmps7
    go_wp2_with fail
    refine (bid_any c.1 hs _).mono ?_
    rw [HI.out]
    rintro e' w' ⟨rfl, rfl⟩
    go_wp2_with (first
      | (go_at_call 37; (with_reducible refine (wval_is ve _ HVE.out _).mono ?_); rintro e' w' ⟨rfl, rfl⟩)
      | (go_at_call 37; (with_reducible refine (wval_is vl _ HVL.out _).mono ?_); rintro e' w' ⟨rfl, rfl⟩))
    all_goals first
      | (exfalso; omega)
      | (go_ret; exact ⟨rfl, E.out.bel⟩)

set_option maxHeartbeats 2000000 in
set_option maxRecDepth 100000 in
theorem cfg_ok (c : CfgD) (hi : idB c.1 = true) (hc : CfgIn c) (w : World) :
    Calls Tryz.prog 7 #[cfgV c] w fun e w' => e = .returned (.int .i64 0) ∧ Below w.heap.size w w' := by
  have E := Lib.hid ((Env.start w).lay #[.string c.1, .int .i64 (cfi c), .int .i64 (cfe c), .int .i64 (cfc c), .int .i64 (cfl c)] 23)
  have HI := Lib.hid hi
  have hs : c.1.size ≤ maxLen := by have := (idB_ne hi).2; unfold maxLen; omega
  unfold cfgV
  unfold CfgIn at hc
  clear hi
  have HVE := Lib.hid (show wi (cfe c) 0 16777216 = true from wi_true.2 ⟨by omega, by omega⟩)
  have HVL := Lib.hid (show wi (cfl c) 0 16777216 = true from wi_true.2 ⟨by omega, by omega⟩)
  obtain ⟨h1, h2, h3, h4, h5, h6, h7, h8⟩ := hc
  generalize cfi c = vi at *
  generalize cfe c = ve at *
  generalize cfc c = vc at *
  generalize cfl c = vl at *
  go_enter Tryz.func7, Tryz.ntmps7
  go_wp2_with fail
  refine (bid_any c.1 hs _).mono ?_
  rw [HI.out]
  rintro e' w' ⟨rfl, rfl⟩
  go_wp2_with (first
    | (go_at_call 37; (with_reducible refine (wval_is ve _ HVE.out _).mono ?_); rintro e' w' ⟨rfl, rfl⟩)
    | (go_at_call 37; (with_reducible refine (wval_is vl _ HVL.out _).mono ?_); rintro e' w' ⟨rfl, rfl⟩))
  all_goals first
    | (exfalso; omega)
    | (go_ret; exact ⟨rfl, E.out.bel⟩)
theorem cfg_any (c : CfgD) (hs : c.1.size ≤ maxLen) (w : World) :
    Calls Tryz.prog 7 #[cfgV c] w fun e w' => e = .returned (.int .i64 (cfgE c)) ∧ Below w.heap.size w w' := by
  unfold cfgE
  by_cases hi : idB c.1 = true
  · rw [if_pos hi]
    by_cases hc : CfgIn c
    · rw [if_pos hc]; exact cfg_ok c hi hc w
    · rw [if_neg hc]; exact cfg_arg c hs hi (cfg_bad hc) w
  · rw [if_neg hi]; exact cfg_id c hs (by simpa using hi) w
/-- a new node -/
def NSt.start (c : CfgD) : NSt := ⟨c, 0, 0, 0, [], []⟩
theorem NGood.start {c : CfgD} (h : cfgE c = 0) : NGood (NSt.start c) := by
  obtain ⟨h1, h2⟩ := cfgE_zero h
  exact ⟨h1, h2, Int.le_refl _, (show (0 : Int) ≤ 1073741824 by decide), by show (0 : Int) = 0 / cfe c; rw [Int.zero_ediv], Int.le_refl _, (show (0 : Int) ≤ 1073741824 by decide), ⟨by simp [NSt.start], by simp [NSt.start], by simp [NSt.start]⟩, by simp [NSt.start], by simp [NSt.start], by simp [NSt.start]⟩
theorem node_new {c : CfgD} {w : World} {b : Nat} (h : Blk w b 62 (nodeCs c 0 0 0 (.slice none 0 0) (.slice none 0 0))) : NodeAt (· = b) w b (NSt.start c) :=
  ⟨none, 0, 0, .slice none 0 0, [], h, ⟨rfl, Reads.none_, by simp⟩, rfl, ⟨Nat.le_refl _, Nat.zero_le _⟩, .inl ⟨rfl, rfl⟩, rfl, (fun g hg => by cases hg), ⟨fun h => by simp at h, by simp⟩, fun k hk => hk ▸ h.lt⟩

set_option maxHeartbeats 1000000 in
set_option maxRecDepth 100000 in
theorem new_no (c : CfgD) (hs : c.1.size ≤ maxLen) (e0 : Int) (he : cfgE c = e0) (hz : e0 ≠ 0) (w : World) :
    Calls Tryz.prog 4 #[cfgV c] w fun e w' => e = .returned (.tuple #[.pointer none, .int .i64 e0]) ∧ Below w.heap.size w w' := by
  have E := Lib.hid ((Env.start w).lay #[.string c.1, .int .i64 (cfi c), .int .i64 (cfe c), .int .i64 (cfc c), .int .i64 (cfl c)] 23)
  have HE := Lib.hid he
  have HC := Lib.hid (fun W => cfg_any c hs W)
  rw [HE.out] at HC
  unfold cfgV at HC ⊢
  clear he
  go_enter Tryz.func4, Tryz.ntmps4
  go_wp2_with fail
  refine (HC.out _).mono ?_
  rintro e' w1 ⟨rfl, hb1⟩
  have E1 := Lib.hid (E.out.below hb1)
  clear hb1
  go_wp2
  all_goals first
    | (exfalso; omega)
    | exact bodyPost_ret (v := .tuple #[.pointer none, .int .i64 e0]) (by simp [results, Tryz.results4, go_sem]) rfl ⟨rfl, E1.out.bel⟩
/-- the answer of New that goes -/
def NewIs (c : CfgD) (w : World) (e : Ending) (w' : World) : Prop := ∃ b, e = .returned (.tuple #[.pointer (some ⟨b, 0, none⟩), .int .i64 0]) ∧ w.heap.size ≤ b ∧ NodeAt (· = b) w' b (NSt.start c) ∧ Below w.heap.size w w'

set_option maxHeartbeats 1000000 in
set_option maxRecDepth 100000 in
theorem new_ok (c : CfgD) (he : cfgE c = 0) (w : World) :
    Calls Tryz.prog 4 #[cfgV c] w (NewIs c w) := by
  have hs : c.1.size ≤ maxLen := by have := (idB_ne (cfgE_zero he).1).2; unfold maxLen; omega
  have E := Lib.hid ((Env.start w).lay #[.string c.1, .int .i64 (cfi c), .int .i64 (cfe c), .int .i64 (cfc c), .int .i64 (cfl c)] 23)
  have HE := Lib.hid he
  have HC := Lib.hid (fun W => cfg_any c hs W)
  rw [HE.out] at HC
  unfold cfgV at HC ⊢
  clear he
  go_enter Tryz.func4, Tryz.ntmps4
  go_wp2_with fail
  refine (HC.out _).mono ?_
  rintro e' w1 ⟨rfl, hb1⟩
  have E1 := Lib.hid (E.out.below hb1)
  clear hb1
  have x0 := E1.out.hd.cell 0
  have x1 := E1.out.hd.cell 1
  have x2 := E1.out.hd.cell 2
  have x3 := E1.out.hd.cell 3
  have x4 := E1.out.hd.cell 4
  simp at x0 x1 x2 x3 x4
  have hs1 := E1.out.bel.size
  have E2 := Lib.hid (E1.out.lay (nodeCs c 0 0 0 (.slice none 0 0) (.slice none 0 0)) 62)
  simp only [nodeCs] at E2
  go_wp2
  exact bodyPost_ret (v := .tuple #[.pointer (some ⟨w1.heap.size, 0, none⟩), .int .i64 0]) (by simp [results, Tryz.results4, go_sem]) rfl ⟨_, rfl, hs1, node_new E2.out.hd, E2.out.bel⟩

section
variable {X : Nat → Prop} {w : World} {b pn pc : Nat} {A : Option Addr} {sv : Value} {l : List PeerT} {s : NSt}
set_option maxHeartbeats 400000 in
set_option maxRecDepth 100000 in
theorem now_any (h : NodeIs X w b A pn pc sv l s) :
    Calls Tryz.prog 25 #[.pointer (some ⟨b, 0, none⟩)] w fun e w' => e = .returned (.int .i64 s.now) ∧ w = w' := by
  have hbl := h.blk.lt
  have b5 := h.blk.cell 5
  simp [nodeCs] at b5
  clear h
  go_enter Tryz.func25, Tryz.ntmps25
  go_wp2
  go_ret
  exact ⟨rfl, rfl⟩
set_option maxHeartbeats 400000 in
set_option maxRecDepth 100000 in
theorem peers_any (h : NodeIs X w b A pn pc sv l s) (hg : NGood s) :
    Calls Tryz.prog 30 #[.pointer (some ⟨b, 0, none⟩)] w (CopyB w.heap.size l pn w) := by
  have hbl := h.blk.lt
  have b8 := h.blk.cell 8
  simp [nodeCs] at b8
  have h64 : ∀ p ∈ l, (pvals p).length ≤ 64 := fun p hp => good64 (hg.ps.good p.1 (by rw [← h.map]; exact List.mem_map.2 ⟨p, hp, rfl⟩) : PeerGood (dpt p.1))
  have HC := Lib.hid (show Calls Tryz.prog 66 #[.slice A pn pc] w (CopyB w.heap.size l pn w) from (copied_is A pc w.heap.size pn l (by have := hg.ps.six; have := h.len; omega) h64 w h.peers (Nat.le_refl _)).mono fun e w' ⟨A', c', l', h1, h2, h3, h4, h5⟩ => ⟨A', c', l', h1, h2, h3, h4, h5, fun k hk => h3.lt k hk⟩)
  clear h hg h64
  go_enter Tryz.func30, Tryz.ntmps30
  go_wp2_with fail
  refine HC.out.mono ?_
  rintro e' w1 ⟨A1, c1, l1, rfl, h2, h3, h4, h5, h6⟩
  have FIN := Lib.hid (show CopyB w.heap.size l pn w (.returned (.slice A1 pn c1)) w1 from ⟨A1, c1, l1, rfl, h2, h3, h4, h5, h6⟩)
  clear h2 h3 h4 h5 h6
  go_wp2
  go_ret
  exact FIN.out
/-- the answer of Tick, whatever -/
def TkIs (X : Nat → Prop) (b : Nat) (s : NSt) (ticks : Int) (w : World) (e : Ending) (w' : World) : Prop :=
  if s.tickE ticks = 0 then (∃ A pn pc sv l, TickIs X b A pn pc sv l s ticks w e w') else e = .returned (.tuple #[.slice none 0 0, .slice none 0 0, .int .i64 (s.tickE ticks)]) ∧ w = w'
theorem tick_any (h : NodeIs X w b A pn pc sv l s) (hg : NGood s) (ticks : Int) :
    Calls Tryz.prog 10 #[.pointer (some ⟨b, 0, none⟩), .int .i64 ticks] w (TkIs X b s ticks w) := by
  unfold TkIs
  by_cases hz : s.tickE ticks = 0
  · refine (tick_ok h hg ticks hz).mono fun e w' hh => ?_
    rw [if_pos hz]; exact ⟨_, _, _, _, _, hh⟩
  · have hz2 := hz
    unfold NSt.tickE at hz2 ⊢
    by_cases h1 : ticks < 1 ∨ 1073741824 < ticks
    · refine (tick_arg b s ticks h1 w).mono fun e w' hh => ?_
      rw [if_pos h1, if_neg (by decide)]; exact hh
    · rw [if_neg h1] at hz2
      by_cases h2 : 1073741824 < s.now + ticks ∨ 64 ≤ ticks / cfe s.c
      · refine (tick_large b s hg.cfg _ _ ticks (by omega) (by omega) hg.now0 hg.now1 h2 w h.blk).mono fun e w' hh => ?_
        rw [if_neg h1, if_pos h2, if_neg (by decide)]; exact hh
      · rw [if_neg h2] at hz2; exact absurd rfl hz2
end
end Go.Proofs.YtcikljcjhijjdaaGreat

namespace Go.Proofs.YtcikljcjhijjdaaGreat
open Go.RowKit Go.Lib
set_option linter.unusedSimpArgs false
set_option linter.unusedVariables false

section
variable {X : Nat → Prop} {w : World} {b pn pc : Nat} {A : Option Addr} {sv : Value} {l : List PeerT} {s : NSt}
set_option maxHeartbeats 400000 in
set_option maxRecDepth 100000 in
theorem seq_any (h : NodeIs X w b A pn pc sv l s) :
    Calls Tryz.prog 26 #[.pointer (some ⟨b, 0, none⟩)] w fun e w' => e = .returned (.int .i64 s.seq) ∧ w = w' := by
  have hbl := h.blk.lt
  have b5 := h.blk.cell 6
  simp [nodeCs] at b5
  clear h
  go_enter Tryz.func26, Tryz.ntmps26
  go_wp2
  go_ret
  exact ⟨rfl, rfl⟩
set_option maxHeartbeats 400000 in
set_option maxRecDepth 100000 in
theorem drops_any (h : NodeIs X w b A pn pc sv l s) :
    Calls Tryz.prog 28 #[.pointer (some ⟨b, 0, none⟩)] w fun e w' => e = .returned (.int .i64 s.drops) ∧ w = w' := by
  have hbl := h.blk.lt
  have b5 := h.blk.cell 7
  simp [nodeCs] at b5
  clear h
  go_enter Tryz.func28, Tryz.ntmps28
  go_wp2
  go_ret
  exact ⟨rfl, rfl⟩
end
end Go.Proofs.YtcikljcjhijjdaaGreat

namespace Go.Proofs.YtcikljcjhijjdaaGreat
open Go.RowKit Go.Lib
set_option linter.unusedSimpArgs false
set_option linter.unusedVariables false

/-- a node in blocks that are new since the world w; nothing older was changed -/
def Own (w W : World) (b : Nat) (s : NSt) : Prop := ∃ X, NodeAt X W b s ∧ (∀ k, X k → w.heap.size ≤ k) ∧ Below w.heap.size w W
section
variable {w W W' : World} {b : Nat} {s : NSt}
theorem Own.bel (h : Own w W b s) : Below w.heap.size w W := by
  obtain ⟨_, _, _, h⟩ := h
  exact h
theorem Own.below (h : Own w W b s) (hb : Below W.heap.size W W') : Own w W' b s := by
  obtain ⟨X, h1, h2, h3⟩ := h
  exact ⟨X, h1.below hb, h2, h3.trans (hb.mono h3.size)⟩
theorem Own.drewN (h : Own w W b s) (n : Nat) : Own w (W.drewN n) b s := h.below (below_drewN (Below.refl _ _) n)
theorem Own.alloc (h : Own w W b s) (o : Obj) : Own w (W.alloc o) b s := h.below ((Below.refl _ _).alloc (Nat.le_refl _) o)
theorem Own.of {X : Nat → Prop} {s' : NSt} (hX : ∀ k, X k → w.heap.size ≤ k) (hw : Below w.heap.size w W) (hn : NodeAt (grow X W W') W' b s') (hk : Kept X W W') : Own w W' b s' :=
  ⟨_, hn, fun k hk => hk.1.elim (hX k) (fun h => Nat.le_trans hw.size h), hw.trans (hk.below hX hw.size)⟩
theorem Own.new {c : CfgD} {e : Ending} (hw : Below w.heap.size w W) (h : NewIs c W e W') : ∃ b, e = .returned (.tuple #[.pointer (some ⟨b, 0, none⟩), .int .i64 0]) ∧ Own w W' b (NSt.start c) ∧ Below W.heap.size W W' := by
  obtain ⟨b, h1, h2, h3, h4⟩ := h
  exact ⟨b, h1, ⟨_, h3, fun k hk => by have := hw.size; show w.heap.size ≤ k; rw [hk]; omega, hw.trans (h4.mono hw.size)⟩, h4⟩
def OwE (w : World) (b : Nat) (s : NSt) (er : Int) (e : Ending) (W' : World) : Prop := e = .returned (.int .i64 er) ∧ Own w W' b s
theorem Own.watch (h : Own w W b s) (hg : NGood s) (id : ByteArray) (hid : id.size ≤ maxLen) (ev : Int) :
    Calls Tryz.prog 5 #[.pointer (some ⟨b, 0, none⟩), .string id, .int .i64 ev] W (OwE w b (s.watched id ev) (s.watchE id ev)) := by
  obtain ⟨X, h1, h2, h3⟩ := h
  obtain ⟨_, _, _, _, _, h1⟩ := h1
  exact (watch_any h1 hg id hid ev).mono fun e W' ⟨k1, k2, k3⟩ => ⟨k1, Own.of h2 h3 k2 k3⟩
/-- notes and an error -/
def OwN (w W : World) (b : Nat) (s : NSt) (N : List TriD) (er : Int) (e : Ending) (W' : World) : Prop :=
  ∃ A c, e = .returned (.tuple #[.slice A N.length c, .int .i64 er]) ∧ Reads W' W'.heap.size 3 A N.length (cells3 N) ∧ Own w W' b s
theorem Own.join (h : Own w W b s) (hg : NGood s) (id : ByteArray) (th : Int) :
    Calls Tryz.prog 18 #[.pointer (some ⟨b, 0, none⟩), .string id, .int .i64 th] W (OwN w W b (s.joined id th) (s.joinN id th) (s.joinE id th)) := by
  obtain ⟨X, h1, h2, h3⟩ := h
  obtain ⟨_, _, _, _, _, h1⟩ := h1
  exact (join_any h1 hg id th).mono fun e W' ⟨A, c, k1, k2, k3, k4⟩ => ⟨A, c, k1, Reads.of_own k2, Own.of h2 h3 k3 k4⟩
theorem Own.hear (h : Own w W b s) (hg : NGood s) (x : ByteArray) :
    Calls Tryz.prog 13 #[.pointer (some ⟨b, 0, none⟩), .string x] W (OwN w W b (s.heard x) (s.hearN x) (s.hearE x)) := by
  obtain ⟨X, h1, h2, h3⟩ := h
  obtain ⟨_, _, _, _, _, h1⟩ := h1
  exact (hear_any h1 hg x).mono fun e W' ⟨A, c, k1, k2, k3, k4⟩ => ⟨A, c, k1, Reads.of_own k2, Own.of h2 h3 k3 k4⟩
/-- texts, notes and no error -/
def OwT (w W : World) (b : Nat) (s : NSt) (T : List ByteArray) (m : Nat) (N : List TriD) (e : Ending) (W' : World) : Prop :=
  ∃ A1 c1 A2 c2, e = .returned (.tuple #[.slice A1 m c1, .slice A2 N.length c2, .int .i64 0]) ∧ Reads W' W'.heap.size 1 A1 m (cellsTx T) ∧ Reads W' W'.heap.size 3 A2 N.length (cells3 N) ∧ Own w W' b s
theorem Own.tick (h : Own w W b s) (hg : NGood s) (g : Int) (he : s.tickE g = 0) :
    Calls Tryz.prog 10 #[.pointer (some ⟨b, 0, none⟩), .int .i64 g] W (OwT w W b (s.ticked g).tell (beatsOf s.c s.seq (s.many g)) (s.many g) (s.ticked g).notes) := by
  obtain ⟨X, h1, h2, h3⟩ := h
  obtain ⟨_, _, _, _, _, h1⟩ := h1
  exact (tick_ok h1 hg g he).mono fun e W' ⟨A1, c1, A2, c2, k1, k2, k3, k4, k5⟩ => ⟨A1, c1, A2, c2, k1, Reads.of_own k2, Reads.of_own k3, Own.of h2 h3 (HoldIs.at_ (HoldIs.grow k4)) k5⟩
theorem Own.now (h : Own w W b s) : Calls Tryz.prog 25 #[.pointer (some ⟨b, 0, none⟩)] W fun e W' => e = .returned (.int .i64 s.now) ∧ W = W' := by
  obtain ⟨X, h1, h2, h3⟩ := h
  obtain ⟨_, _, _, _, _, h1⟩ := h1
  exact now_any h1
/-- the peers, copied -/
def OwP (W : World) (D : List PeerD) (e : Ending) (W' : World) : Prop := ∃ A c l, e = .returned (.slice A D.length c) ∧ l.map Prod.fst = D ∧ Peers W' W'.heap.size A D.length l ∧ Below W.heap.size W W'
theorem Own.peers (h : Own w W b s) (hg : NGood s) : Calls Tryz.prog 30 #[.pointer (some ⟨b, 0, none⟩)] W (OwP W s.D) := by
  obtain ⟨X, h1, h2, h3⟩ := h
  obtain ⟨A, pn, pc, sv, l, h1⟩ := h1
  refine (peers_any h1 hg).mono fun e W' ⟨A', c', l', k1, k2, k3, k4, k5, _⟩ => ?_
  have hn : s.D.length = pn := HoldIs.len h1
  have hm : l'.map Prod.fst = s.D := k2.trans h1.map
  have hl : l'.length = s.D.length := by rw [← hm, List.length_map]
  refine ⟨A', c', l', by rw [hn]; exact k1, hm, ⟨hl, ?_, ?_⟩, k5⟩
  · rw [hn]; exact Reads.of_own k3
  · exact k4.ok fun p hp => by
      have : idB p.1.1 = true := (hg.ps.good p.1 (by rw [← hm]; exact List.mem_map.2 ⟨p, hp, rfl⟩)).1
      have := (idB_ne this).2
      show p.1.1.size ≤ maxLen
      unfold maxLen; omega
end
end Go.Proofs.YtcikljcjhijjdaaGreat

namespace Go.Proofs.YtcikljcjhijjdaaGreat
open Go.RowKit Go.Lib
set_option linter.unusedSimpArgs false
set_option linter.unusedVariables false

theorem rpadd_any (A : Option Addr) (c B n : Nat) (l : List PeerT) (D : List PeerD) (hm : l.map Prod.fst = D) (ho : PsOk D) (hnc : n ≤ c ∧ c ≤ maxLen) (id : ByteArray) (hid : id.size ≤ maxLen) (size first now : Int) (w : World) (hp : Peers w B A n l) (hB : B ≤ w.heap.size) :
    Calls Tryz.prog 47 #[.slice A n c, .string id, .int .i64 size, .int .i64 first, .int .i64 now] w (PAddIs A l D id size first now w) := by
  have hn : D.length = n := by rw [← hm, List.length_map]; exact hp.len
  have hmm : n ≤ maxLen := Nat.le_trans hnc.1 hnc.2
  have he : peersE l = 0 := by rw [peersE_map, hm]; exact ho.zero
  obtain ⟨h6', hgood, hasc⟩ := peersE_zero he
  unfold PAddIs addE
  by_cases hi : idB id = false
  · rw [if_pos hi]; exact radd_id A c B n l hmm id size first now w hp hB hi
  rw [if_neg hi]
  have hi : idB id = true := by simpa using hi
  by_cases hbad : ArgBad size first now
  · rw [if_pos hbad]; exact radd_arg A c B n l hmm id size first now w hp hB hi hbad
  rw [if_neg hbad]
  obtain ⟨s0, s1, hfv, n0, n1⟩ := arg_ok hbad
  cases hx : idxOf D id with
  | some k =>
    obtain ⟨hk, h1, h2⟩ := idx_some hx
    rw [if_pos (show (some k).isSome = true from rfl)]
    have hkl : k < l.length := by rw [hp.len]; omega
    have hpk : pid (l[k]'hkl) = id := by subst hm; simpa using h1
    have hfi := rfind_some A c B n l k hkl (fun j hj hjk => asc_ne hasc hj hkl hjk) hmm
    rw [hpk] at hfi
    exact radd_there A c B n l hmm id size first now w hp hB hi s0 s1 hfv n0 n1 (by have := ho.six; omega) k hkl hfi
  | none =>
    rw [if_neg (by simp)]
    by_cases h6 : D.length = 6
    · rw [if_pos h6]
      exact radd_full A c B n l hmm id size first now w hp hB hi s0 s1 hfv n0 n1 (by omega) (rfind_none A c B n l id (idxl hm hx) hmm)
    · rw [if_neg h6]
      obtain ⟨f1, f2, f3, f4⟩ := ins_find (A := A) (c := c) hm ho hp.len hx
      have := radd_ok A c B n l hmm id size first now w hp hB hi s0 s1 hfv n0 n1 (by have := ho.six; omega) hnc.1 hnc.2 (rfind_none A c B n l id (idxl hm hx) hmm) (insAt D id) f1 f2 f3
      rw [hm] at this
      rw [hn]
      refine this.mono fun x w' h => ?_
      rw [if_pos rfl]
      exact h
/-- the answer of Watch -/
def RWtIs (X : Nat → Prop) (b : Nat) (s' : NSt) (er : Int) (w : World) (e : Ending) (w' : World) : Prop := e = .returned (.int .i64 er) ∧ RNodeAt (grow X w w') w' b s' ∧ Kept X w w'
section
variable {X : Nat → Prop} {w : World} {b pn pc : Nat} {A : Option Addr} {sv : Value} {l : List PeerT} {s : NSt}
set_option maxHeartbeats 1000000 in
set_option maxRecDepth 100000 in
theorem rwatch_own (h : RNodeIs X w b A pn pc sv l s) (ev : Int) :
    Calls Tryz.prog 15 #[.pointer (some ⟨b, 0, none⟩), .string s.c.1, .int .i64 ev] w (RWtIs X b s 5 w) := by
  have HH := Lib.hid h
  have hbl := h.blk.lt
  have b0 := h.blk.cell 0
  simp [rnodeCs] at b0
  clear h
  go_enter Tryz.func15, Tryz.ntmps15
  go_wp2
  go_ret
  exact ⟨rfl, HoldIs.at_ (HoldIs.grow HH.out), Kept.refl _ _⟩

set_option maxHeartbeats 1000000 in
set_option maxRecDepth 100000 in
theorem rwatch_no (h : RNodeIs X w b A pn pc sv l s) (hg : NGood s) (id : ByteArray) (hid : id.size ≤ maxLen) (ev : Int) (hne : id ≠ s.c.1) (er : Int) (he : addE s.D id (cfc s.c) ev s.now = er) (hz : er ≠ 0) :
    Calls Tryz.prog 15 #[.pointer (some ⟨b, 0, none⟩), .string id, .int .i64 ev] w (RWtIs X b s er w) := by
  have HH := Lib.hid h
  have HE := Lib.hid he
  have hbl := h.blk.lt
  have b0 := h.blk.cell 0
  simp [rnodeCs] at b0
  have heq : (id.toList == s.c.1.toList) = false := eqB_no hne
  have HP := Lib.hid (show ∀ W, Below w.heap.size w W → Calls Tryz.prog 47 #[.slice A pn pc, .string id, .int .i64 (cfc s.c), .int .i64 ev, .int .i64 s.now] W (AddNo er W) from fun W hw =>
    (rpadd_any A pc w.heap.size pn l s.D h.map hg.ps h.room id hid (cfc s.c) ev s.now W (h.peers.below hw (Nat.le_refl _)) hw.size).mono fun x w' h => by unfold PAddIs at h; rw [HE.out, if_neg hz] at h; exact h)
  have HS := Lib.hid (show ∀ w', Below w.heap.size w w' → (Below w.heap.size w w' ∧ w'.cell? ⟨b, 7, none⟩ = some (.slice A pn pc) ∧ w'.cell? ⟨b, 3, none⟩ = some (.int .i64 (cfc s.c)) ∧ w'.cell? ⟨b, 5, none⟩ = some (.int .i64 s.now))
    from fun w' h => ⟨h, (HH.out.blk.below h hbl).cell 7, (HH.out.blk.below h hbl).cell 3, (HH.out.blk.below h hbl).cell 5⟩)
  clear h hg hne he
  go_enter Tryz.func15, Tryz.ntmps15
  go_upto_region 17 with fail
  clear b0 heq
  go_region_held3 (fun w' => Below w.heap.size w w' ∧ w'.cell? ⟨b, 7, none⟩ = some (.slice A pn pc) ∧ w'.cell? ⟨b, 3, none⟩ = some (.int .i64 (cfc s.c)) ∧ w'.cell? ⟨b, 5, none⟩ = some (.int .i64 s.now))
    ((refine HS.out _ ?_; repeat (first | (with_reducible exact hL3) | (with_reducible exact Below.refl _ _) | (with_reducible refine Below.al5 ?_) | (with_reducible refine Below.drew ?_))))
    ((go_at_call 47; (with_reducible refine (HP.out _ ?ia).mono ?_); (case ia => repeat (first | (with_reducible exact Below.refl _ _) | (with_reducible refine Below.al5 ?_) | (with_reducible refine Below.drew ?_))); rintro e' w3 ⟨rfl, hb3⟩; have hL3 : Below w.heap.size w w3 := Below.thru5 (by repeat (first | (with_reducible exact Below.refl _ _) | (with_reducible refine Below.al5 ?_) | (with_reducible refine Below.drew ?_))) hb3))
  all_goals
    have E3 := Lib.hid hL3
    clear hL3 hb3
    go_wp2
    all_goals first
      | (exfalso; omega)
      | (go_ret; exact ⟨rfl, HoldIs.at_ (HoldIs.grow (HoldIs.below HH.out E3.out)), .of_below E3.out⟩)

set_option maxHeartbeats 1000000 in
set_option maxRecDepth 100000 in
theorem rwatch_ok (h : RNodeIs X w b A pn pc sv l s) (hg : NGood s) (id : ByteArray) (hid : id.size ≤ maxLen) (ev : Int) (hne : id ≠ s.c.1) (er : Int) (he : addE s.D id (cfc s.c) ev s.now = er) (hz : er = 0) :
    Calls Tryz.prog 15 #[.pointer (some ⟨b, 0, none⟩), .string id, .int .i64 ev] w (RWtIs X b { s with D := addD s.D id (cfc s.c) ev s.now } 0 w) := by
  have HH := Lib.hid h
  have HE := Lib.hid he
  have hbl := h.blk.lt
  have b0 := h.blk.cell 0
  simp [rnodeCs] at b0
  have heq : (id.toList == s.c.1.toList) = false := eqB_no hne
  have HP := Lib.hid (show ∀ W, Below w.heap.size w W → Calls Tryz.prog 47 #[.slice A pn pc, .string id, .int .i64 (cfc s.c), .int .i64 ev, .int .i64 s.now] W (AddIs A l (addD s.D id (cfc s.c) ev s.now) (s.D.length + 1) W) from fun W hw =>
    (rpadd_any A pc w.heap.size pn l s.D h.map hg.ps h.room id hid (cfc s.c) ev s.now W (h.peers.below hw (Nat.le_refl _)) hw.size).mono fun x w' h => by unfold PAddIs at h; rw [HE.out, if_pos hz] at h; exact h)
  have HS := Lib.hid (show ∀ w', Below w.heap.size w w' → (Below w.heap.size w w' ∧ w'.cell? ⟨b, 7, none⟩ = some (.slice A pn pc) ∧ w'.cell? ⟨b, 3, none⟩ = some (.int .i64 (cfc s.c)) ∧ w'.cell? ⟨b, 5, none⟩ = some (.int .i64 s.now))
    from fun w' h => ⟨h, (HH.out.blk.below h hbl).cell 7, (HH.out.blk.below h hbl).cell 3, (HH.out.blk.below h hbl).cell 5⟩)
  clear h hg hne he
  go_enter Tryz.func15, Tryz.ntmps15
  go_upto_region 17 with fail
  clear b0 heq
  go_region_held3 (fun w' => Below w.heap.size w w' ∧ w'.cell? ⟨b, 7, none⟩ = some (.slice A pn pc) ∧ w'.cell? ⟨b, 3, none⟩ = some (.int .i64 (cfc s.c)) ∧ w'.cell? ⟨b, 5, none⟩ = some (.int .i64 s.now))
    ((refine HS.out _ ?_; repeat (first | (with_reducible exact hL3) | (with_reducible exact Below.refl _ _) | (with_reducible refine Below.al5 ?_) | (with_reducible refine Below.drew ?_))))
    ((go_at_call 47; (with_reducible refine (HP.out _ ?ia).mono ?_); (case ia => repeat (first | (with_reducible exact Below.refl _ _) | (with_reducible refine Below.al5 ?_) | (with_reducible refine Below.drew ?_))); rintro e' w3 ⟨A3, c3, l3, rfl, hm3, hp3, hb3, hr3, hk3⟩; have hL3 : Below w.heap.size w w3 := Below.thru5 (by repeat (first | (with_reducible exact Below.refl _ _) | (with_reducible refine Below.al5 ?_) | (with_reducible refine Below.drew ?_))) hb3))
  all_goals
    have E3 := Lib.hid hL3
    have hbl3 : b < w3.heap.size := by have := hL3.size; omega
    have N3 := Lib.hid (HoldIs.below HH.out hL3)
    have HK3 := Lib.hid (keeps_fr (w := w) hk3 (by first | exact Nat.le_refl _ | (simp)))
    have NT := Lib.hid (HoldIs.turn (mk' := rnodeCs s.c s.now s.drops) (i := 7) HH.out E3.out hp3 hm3 hr3 HK3.out rfl)
    have KT := Lib.hid ((Kept.of_below (X := X) E3.out).setCell (a := ⟨b, 7, none⟩) (.inl HH.out.xb) (.slice A3 (s.D.length + 1) c3))
    have f8 := N3.out.blk.frozen 7
    clear hL3 hb3 hm3 hp3 hr3 hk3
    go_wp2
    all_goals first
      | (exfalso; omega)
      | (go_ret; exact ⟨rfl, HoldAt.wide (HoldIs.at_ NT.out) (grow_of' (by simp [World.setCell])) (fun k hk => hk.2), KT.out⟩)
theorem rwatch_any (h : RNodeIs X w b A pn pc sv l s) (hg : NGood s) (id : ByteArray) (hid : id.size ≤ maxLen) (ev : Int) :
    Calls Tryz.prog 15 #[.pointer (some ⟨b, 0, none⟩), .string id, .int .i64 ev] w (RWtIs X b (s.watched id ev) (s.watchE id ev) w) := by
  unfold NSt.watched NSt.watchE
  by_cases hi : id = s.c.1
  · rw [if_pos hi, if_neg (by decide)]
    subst hi
    exact rwatch_own h ev
  · rw [if_neg hi]
    by_cases hz : addE s.D id (cfc s.c) ev s.now = 0
    · rw [if_pos hz, hz]; exact rwatch_ok h hg id hid ev hi _ rfl hz
    · rw [if_neg hz]; exact rwatch_no h hg id hid ev hi _ rfl hz
end
end Go.Proofs.YtcikljcjhijjdaaGreat
