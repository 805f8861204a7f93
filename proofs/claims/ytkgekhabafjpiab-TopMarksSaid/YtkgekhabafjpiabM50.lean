/- node.Check, New, and what tells of a node, walked. -/
import Derived.Test.YtkgekhabafjpiabM49
import Derived.Test.YtkgekhabafjpiabM48
namespace Go.Proofs.Ytkgekhabafjpiab
open Go.RowKit Go.Lib
set_option linter.unusedSimpArgs false
set_option linter.unusedVariables false

def cfgV (c : CfgD) : Value := .agg #[.string c.1, .int .i64 (cfi c), .int .i64 (cfe c), .int .i64 (cfc c), .int .i64 (cfl c)]
def CfgBad (i e c l : Int) : Prop := i < 0 ∨ (0 ≤ i ∧ 2147483647 < i) ∨ (0 ≤ i ∧ i ≤ 2147483647 ∧ e < 1) ∨ (0 ≤ i ∧ i ≤ 2147483647 ∧ 1 ≤ e ∧ wi e 0 16777216 = false) ∨ (0 ≤ i ∧ i ≤ 2147483647 ∧ 1 ≤ e ∧ wi e 0 16777216 = true ∧ c < 1) ∨
  (0 ≤ i ∧ i ≤ 2147483647 ∧ 1 ≤ e ∧ wi e 0 16777216 = true ∧ 1 ≤ c ∧ 64 < c) ∨ (0 ≤ i ∧ i ≤ 2147483647 ∧ 1 ≤ e ∧ wi e 0 16777216 = true ∧ 1 ≤ c ∧ c ≤ 64 ∧ l < 1) ∨ (0 ≤ i ∧ i ≤ 2147483647 ∧ 1 ≤ e ∧ wi e 0 16777216 = true ∧ 1 ≤ c ∧ c ≤ 64 ∧ 1 ≤ l ∧ wi l 0 16777216 = false)
instance (c : CfgD) : Decidable (CfgIn c) := by unfold CfgIn; infer_instance
def cfgE (c : CfgD) : Int := if idB c.1 = true then (if CfgIn c then 0 else 1) else 3
theorem cfgE_zero {c : CfgD} (h : cfgE c = 0) : idB c.1 = true ∧ CfgIn c := by
  unfold cfgE at h
  split at h
  · rename_i h1
    split at h
    · rename_i h2; exact ⟨h1, h2⟩
    · cases h
  · cases h
theorem cfg_bad {c : CfgD} (h : ¬ CfgIn c) : CfgBad (cfi c) (cfe c) (cfc c) (cfl c) := by
  unfold CfgBad
  by_cases h1 : cfi c < 0
  · exact .inl h1
  by_cases h2 : 2147483647 < cfi c
  · exact .inr (.inl ⟨by omega, h2⟩)
  by_cases h3 : cfe c < 1
  · exact .inr (.inr (.inl ⟨by omega, by omega, h3⟩))
  cases h4 : wi (cfe c) 0 16777216
  · exact .inr (.inr (.inr (.inl ⟨by omega, by omega, by omega, rfl⟩)))
  by_cases h5 : cfc c < 1
  · exact .inr (.inr (.inr (.inr (.inl ⟨by omega, by omega, by omega, rfl, h5⟩))))
  by_cases h6 : 64 < cfc c
  · exact .inr (.inr (.inr (.inr (.inr (.inl ⟨by omega, by omega, by omega, rfl, by omega, h6⟩)))))
  by_cases h7 : cfl c < 1
  · exact .inr (.inr (.inr (.inr (.inr (.inr (.inl ⟨by omega, by omega, by omega, rfl, by omega, by omega, h7⟩))))))
  cases h8 : wi (cfl c) 0 16777216
  · exact .inr (.inr (.inr (.inr (.inr (.inr (.inr ⟨by omega, by omega, by omega, rfl, by omega, by omega, by omega, rfl⟩))))))
  · exfalso
    apply h
    have := wi_true.1 h4
    have := wi_true.1 h8
    unfold CfgIn
    omega

set_option maxHeartbeats 1000000 in
set_option maxRecDepth 100000 in
theorem cfg_id (c : CfgD) (hs : c.1.size ≤ maxLen) (hi : idB c.1 = false) (w : World) :
    Calls Try.prog 16 #[cfgV c] w fun e w' => e = .returned (.int .i64 3) ∧ Below w.heap.size w w' := by
  have E := Lib.hid ((Env.start w).lay #[.string c.1, .int .i64 (cfi c), .int .i64 (cfe c), .int .i64 (cfc c), .int .i64 (cfl c)] 29)
  have HI := Lib.hid hi
  unfold cfgV
  clear hi
  go_enter Try.func16, Try.ntmps16
  go_wp2_with fail
  refine (bid_any c.1 hs _).mono ?_
  rw [HI.out]
  rintro e' w' ⟨rfl, rfl⟩
  go_wp2
  go_ret
  exact ⟨rfl, E.out.bel⟩

set_option maxHeartbeats 2000000 in
set_option maxRecDepth 100000 in
theorem cfg_arg (c : CfgD) (hs : c.1.size ≤ maxLen) (hi : idB c.1 = true) (hbad : CfgBad (cfi c) (cfe c) (cfc c) (cfl c)) (w : World) :
    Calls Try.prog 16 #[cfgV c] w fun e w' => e = .returned (.int .i64 1) ∧ Below w.heap.size w w' := by
  have E := Lib.hid ((Env.start w).lay #[.string c.1, .int .i64 (cfi c), .int .i64 (cfe c), .int .i64 (cfc c), .int .i64 (cfl c)] 29)
  have HI := Lib.hid hi
  unfold cfgV
  clear hi
  obtain ⟨be, hbe⟩ : ∃ b, wi (cfe c) 0 16777216 = b := ⟨_, rfl⟩
  obtain ⟨bl, hbl⟩ : ∃ b, wi (cfl c) 0 16777216 = b := ⟨_, rfl⟩
  have HVE := Lib.hid hbe
  have HVL := Lib.hid hbl
  unfold CfgBad at hbad
  rw [hbe, hbl] at hbad
  clear hbe hbl
  generalize cfi c = vi at *
  generalize cfe c = ve at *
  generalize cfc c = vc at *
  generalize cfl c = vl at *
  rcases hbad with h | ⟨h1, h⟩ | ⟨h1, h2, h⟩ | ⟨h1, h2, h3, hv⟩ | ⟨h1, h2, h3, hv, h⟩ | ⟨h1, h2, h3, hv, h4, h⟩ | ⟨h1, h2, h3, hv, h4, h5, h⟩ | ⟨h1, h2, h3, hv, h4, h5, h6, hw⟩
  all_goals
    try subst hw
    try subst hv
    go_enter Try.func16, Try.ntmps16
    go_wp2_with fail
    refine (bid_any c.1 hs _).mono ?_
    rw [HI.out]
    rintro e' w' ⟨rfl, rfl⟩
    go_wp2_with (first
      | (go_at_call 31; (with_reducible refine (wval_is ve _ HVE.out _).mono ?_); rintro e' w' ⟨rfl, rfl⟩)
      | (go_at_call 31; (with_reducible refine (wval_is vl _ HVL.out _).mono ?_); rintro e' w' ⟨rfl, rfl⟩))
    all_goals first
      | (exfalso; omega)
      | (go_ret; exact ⟨rfl, E.out.bel⟩)

set_option maxHeartbeats 2000000 in
set_option maxRecDepth 100000 in
theorem cfg_ok (c : CfgD) (hi : idB c.1 = true) (hc : CfgIn c) (w : World) :
    Calls Try.prog 16 #[cfgV c] w fun e w' => e = .returned (.int .i64 0) ∧ Below w.heap.size w w' := by
  have E := Lib.hid ((Env.start w).lay #[.string c.1, .int .i64 (cfi c), .int .i64 (cfe c), .int .i64 (cfc c), .int .i64 (cfl c)] 29)
  have HI := Lib.hid hi
  have hs : c.1.size ≤ maxLen := by have := (idB_ne hi).2; unfold maxLen; omega
  unfold cfgV
  unfold CfgIn at hc
  clear hi
  have HVE := Lib.hid (show wi (cfe c) 0 16777216 = true from wi_true.2 ⟨by omega, by omega⟩)
  have HVL := Lib.hid (show wi (cfl c) 0 16777216 = true from wi_true.2 ⟨by omega, by omega⟩)
  obtain ⟨h1, h2, h3, h4, h5, h6, h7, h8⟩ := hc
  generalize cfi c = vi at *
  generalize cfe c = ve at *
  generalize cfc c = vc at *
  generalize cfl c = vl at *
  go_enter Try.func16, Try.ntmps16
  go_wp2_with fail
  refine (bid_any c.1 hs _).mono ?_
  rw [HI.out]
  rintro e' w' ⟨rfl, rfl⟩
  go_wp2_with (first
    | (go_at_call 31; (with_reducible refine (wval_is ve _ HVE.out _).mono ?_); rintro e' w' ⟨rfl, rfl⟩)
    | (go_at_call 31; (with_reducible refine (wval_is vl _ HVL.out _).mono ?_); rintro e' w' ⟨rfl, rfl⟩))
  all_goals first
    | (exfalso; omega)
    | (go_ret; exact ⟨rfl, E.out.bel⟩)
theorem cfg_any (c : CfgD) (hs : c.1.size ≤ maxLen) (w : World) :
    Calls Try.prog 16 #[cfgV c] w fun e w' => e = .returned (.int .i64 (cfgE c)) ∧ Below w.heap.size w w' := by
  unfold cfgE
  by_cases hi : idB c.1 = true
  · rw [if_pos hi]
    by_cases hc : CfgIn c
    · rw [if_pos hc]; exact cfg_ok c hi hc w
    · rw [if_neg hc]; exact cfg_arg c hs hi (cfg_bad hc) w
  · rw [if_neg hi]; exact cfg_id c hs (by simpa using hi) w
/-- a new node -/
def NSt.start (c : CfgD) : NSt := ⟨c, 0, 0, 0, [], []⟩
theorem NGood.start {c : CfgD} (h : cfgE c = 0) : NGood (NSt.start c) := by
  obtain ⟨h1, h2⟩ := cfgE_zero h
  exact ⟨h1, h2, Int.le_refl _, (show (0 : Int) ≤ 1073741824 by decide), by show (0 : Int) = 0 / cfe c; rw [Int.zero_ediv], Int.le_refl _, (show (0 : Int) ≤ 1073741824 by decide), ⟨by simp [NSt.start], by simp [NSt.start], by simp [NSt.start]⟩, by simp [NSt.start], by simp [NSt.start], by simp [NSt.start]⟩
theorem node_new {c : CfgD} {w : World} {b : Nat} (h : Blk w b 64 (nodeCs c 0 0 0 (.slice none 0 0) (.slice none 0 0))) : NodeAt (· = b) w b (NSt.start c) :=
  ⟨none, 0, 0, .slice none 0 0, [], h, ⟨rfl, Reads.none_, by simp⟩, rfl, ⟨Nat.le_refl _, Nat.zero_le _⟩, .inl ⟨rfl, rfl⟩, rfl, (fun g hg => by cases hg), ⟨fun h => by simp at h, by simp⟩, fun k hk => hk ▸ h.lt⟩

set_option maxHeartbeats 1000000 in
set_option maxRecDepth 100000 in
theorem new_no (c : CfgD) (hs : c.1.size ≤ maxLen) (e0 : Int) (he : cfgE c = e0) (hz : e0 ≠ 0) (w : World) :
    Calls Try.prog 5 #[cfgV c] w fun e w' => e = .returned (.tuple #[.pointer none, .int .i64 e0]) ∧ Below w.heap.size w w' := by
  have E := Lib.hid ((Env.start w).lay #[.string c.1, .int .i64 (cfi c), .int .i64 (cfe c), .int .i64 (cfc c), .int .i64 (cfl c)] 29)
  have HE := Lib.hid he
  have HC := Lib.hid (fun W => cfg_any c hs W)
  rw [HE.out] at HC
  unfold cfgV at HC ⊢
  clear he
  go_enter Try.func5, Try.ntmps5
  go_wp2_with fail
  refine (HC.out _).mono ?_
  rintro e' w1 ⟨rfl, hb1⟩
  have E1 := Lib.hid (E.out.below hb1)
  clear hb1
  go_wp2
  all_goals first
    | (exfalso; omega)
    | exact bodyPost_ret (v := .tuple #[.pointer none, .int .i64 e0]) (by simp [results, Try.results5, go_sem]) rfl ⟨rfl, E1.out.bel⟩
/-- the answer of New that goes -/
def NewIs (c : CfgD) (w : World) (e : Ending) (w' : World) : Prop := ∃ b, e = .returned (.tuple #[.pointer (some ⟨b, 0, none⟩), .int .i64 0]) ∧ w.heap.size ≤ b ∧ NodeAt (· = b) w' b (NSt.start c) ∧ Below w.heap.size w w'

set_option maxHeartbeats 1000000 in
set_option maxRecDepth 100000 in
theorem new_ok (c : CfgD) (he : cfgE c = 0) (w : World) :
    Calls Try.prog 5 #[cfgV c] w (NewIs c w) := by
  have hs : c.1.size ≤ maxLen := by have := (idB_ne (cfgE_zero he).1).2; unfold maxLen; omega
  have E := Lib.hid ((Env.start w).lay #[.string c.1, .int .i64 (cfi c), .int .i64 (cfe c), .int .i64 (cfc c), .int .i64 (cfl c)] 29)
  have HE := Lib.hid he
  have HC := Lib.hid (fun W => cfg_any c hs W)
  rw [HE.out] at HC
  unfold cfgV at HC ⊢
  clear he
  go_enter Try.func5, Try.ntmps5
  go_wp2_with fail
  refine (HC.out _).mono ?_
  rintro e' w1 ⟨rfl, hb1⟩
  have E1 := Lib.hid (E.out.below hb1)
  clear hb1
  have x0 := E1.out.hd.cell 0
  have x1 := E1.out.hd.cell 1
  have x2 := E1.out.hd.cell 2
  have x3 := E1.out.hd.cell 3
  have x4 := E1.out.hd.cell 4
  simp at x0 x1 x2 x3 x4
  have hs1 := E1.out.bel.size
  have E2 := Lib.hid (E1.out.lay (nodeCs c 0 0 0 (.slice none 0 0) (.slice none 0 0)) 64)
  simp only [nodeCs] at E2
  go_wp2
  exact bodyPost_ret (v := .tuple #[.pointer (some ⟨w1.heap.size, 0, none⟩), .int .i64 0]) (by simp [results, Try.results5, go_sem]) rfl ⟨_, rfl, hs1, node_new E2.out.hd, E2.out.bel⟩

section
variable {X : Nat → Prop} {w : World} {b pn pc : Nat} {A : Option Addr} {sv : Value} {l : List PeerT} {s : NSt}
set_option maxHeartbeats 400000 in
set_option maxRecDepth 100000 in
theorem now_any (h : NodeIs X w b A pn pc sv l s) :
    Calls Try.prog 11 #[.pointer (some ⟨b, 0, none⟩)] w fun e w' => e = .returned (.int .i64 s.now) ∧ w = w' := by
  have hbl := h.blk.lt
  have b5 := h.blk.cell 5
  simp [nodeCs] at b5
  clear h
  go_enter Try.func11, Try.ntmps11
  go_wp2
  go_ret
  exact ⟨rfl, rfl⟩



















/-- the answer of Tick, whatever -/
def TkIs (X : Nat → Prop) (b : Nat) (s : NSt) (ticks : Int) (w : World) (e : Ending) (w' : World) : Prop :=
  if s.tickE ticks = 0 then (∃ A pn pc sv l, TickIs X b A pn pc sv l s ticks w e w') else e = .returned (.tuple #[.slice none 0 0, .slice none 0 0, .int .i64 (s.tickE ticks)]) ∧ w = w'
theorem tick_any (h : NodeIs X w b A pn pc sv l s) (hg : NGood s) (ticks : Int) :
    Calls Try.prog 10 #[.pointer (some ⟨b, 0, none⟩), .int .i64 ticks] w (TkIs X b s ticks w) := by
  unfold TkIs
  by_cases hz : s.tickE ticks = 0
  · refine (tick_ok h hg ticks hz).mono fun e w' hh => ?_
    rw [if_pos hz]; exact ⟨_, _, _, _, _, hh⟩
  · have hz2 := hz
    unfold NSt.tickE at hz2 ⊢
    by_cases h1 : ticks < 1 ∨ 1073741824 < ticks
    · refine (tick_arg b s ticks h1 w).mono fun e w' hh => ?_
      rw [if_pos h1, if_neg (by decide)]; exact hh
    · rw [if_neg h1] at hz2
      by_cases h2 : 1073741824 < s.now + ticks ∨ 64 ≤ ticks / cfe s.c
      · refine (tick_large b s hg.cfg _ _ ticks (by omega) (by omega) hg.now0 hg.now1 h2 w h.blk).mono fun e w' hh => ?_
        rw [if_neg h1, if_pos h2, if_neg (by decide)]; exact hh
      · rw [if_neg h2] at hz2; exact absurd rfl hz2
end
end Go.Proofs.Ytkgekhabafjpiab
