/- slices.Equal over subs and over strings, walked where both are the same; node.Subs. (with what it needs) -/
import Derived.Test.YthimchhnhhchkaaGreatDoorM33
import Derived.Test.YthimchhnhhchkaaGreatDoorM38
import Derived.Test.YthimchhnhhchkaaGreatDoorM36
import Derived.Test.YthimchhnhhchkaaGreatDoorM34
import Derived.Test.YthimchhnhhchkaaGreatDoorM37
import Derived.Test.YthimchhnhhchkaaGreatDoorM21
import Derived.Test.YthimchhnhhchkaaGreatDoorM30
import Derived.Test.YthimchhnhhchkaaGreatDoorM35
import Derived.Test.YthimchhnhhchkaaGreatDoorM29
import Derived.Test.YthimchhnhhchkaaGreatDoorM11
import Derived.Lib.AppendZerosOnto
import Derived.Lib.Overlaps
import Derived.Deep.DeepCutAuto
namespace Go.Proofs.YthimchhnhhchkaaGreatDoor
open Go.RowKit Go.Lib
set_option linter.unusedSimpArgs false
set_option linter.unusedVariables false











































































/-- subs, copied -/
def NewSubs (S : List TriD) (w : World) (e : Ending) (w' : World) : Prop := ∃ A c, e = .returned (.slice A S.length c) ∧ w'.ownsRow w.heap.size 187 3 (.slice A S.length c) S.length (cells3 S) ∧ Below w.heap.size w w'
theorem sub_info2 : (Tryz.prog.info? 187).map (fun i => (i.zero, i.size, i.bytes)) = some (some (.agg #[.string ByteArray.empty, .int .i64 0, .bool false]), 3, 32) := by kernel_rfl







































end Go.Proofs.YthimchhnhhchkaaGreatDoor

namespace Go.Proofs.YthimchhnhhchkaaGreatDoor
open Go.RowKit Go.Lib
set_option linter.unusedSimpArgs false
set_option linter.unusedVariables false

def cfgV (c : CfgD) : Value := .agg #[.string c.1, .int .i64 (cfi c), .int .i64 (cfe c), .int .i64 (cfc c), .int .i64 (cfl c)]
def CfgBad (i e c l : Int) : Prop := i < 0 ∨ (0 ≤ i ∧ 2147483647 < i) ∨ (0 ≤ i ∧ i ≤ 2147483647 ∧ e < 1) ∨ (0 ≤ i ∧ i ≤ 2147483647 ∧ 1 ≤ e ∧ wi e 0 16777216 = false) ∨ (0 ≤ i ∧ i ≤ 2147483647 ∧ 1 ≤ e ∧ wi e 0 16777216 = true ∧ c < 1) ∨
  (0 ≤ i ∧ i ≤ 2147483647 ∧ 1 ≤ e ∧ wi e 0 16777216 = true ∧ 1 ≤ c ∧ 64 < c) ∨ (0 ≤ i ∧ i ≤ 2147483647 ∧ 1 ≤ e ∧ wi e 0 16777216 = true ∧ 1 ≤ c ∧ c ≤ 64 ∧ l < 1) ∨ (0 ≤ i ∧ i ≤ 2147483647 ∧ 1 ≤ e ∧ wi e 0 16777216 = true ∧ 1 ≤ c ∧ c ≤ 64 ∧ 1 ≤ l ∧ wi l 0 16777216 = false)
instance (c : CfgD) : Decidable (CfgIn c) := by unfold CfgIn; infer_instance
def cfgE (c : CfgD) : Int := if idB c.1 = true then (if CfgIn c then 0 else 1) else 3
theorem cfgE_zero {c : CfgD} (h : cfgE c = 0) : idB c.1 = true ∧ CfgIn c := by
  unfold cfgE at h
  split at h
  · rename_i h1
    split at h
    · rename_i h2; exact ⟨h1, h2⟩
    · cases h
  · cases h
theorem cfg_bad {c : CfgD} (h : ¬ CfgIn c) : CfgBad (cfi c) (cfe c) (cfc c) (cfl c) := by
  unfold CfgBad
  by_cases h1 : cfi c < 0
  · exact .inl h1
  by_cases h2 : 2147483647 < cfi c
  · exact .inr (.inl ⟨by omega, h2⟩)
  by_cases h3 : cfe c < 1
  · exact .inr (.inr (.inl ⟨by omega, by omega, h3⟩))
  cases h4 : wi (cfe c) 0 16777216
  · exact .inr (.inr (.inr (.inl ⟨by omega, by omega, by omega, rfl⟩)))
  by_cases h5 : cfc c < 1
  · exact .inr (.inr (.inr (.inr (.inl ⟨by omega, by omega, by omega, rfl, h5⟩))))
  by_cases h6 : 64 < cfc c
  · exact .inr (.inr (.inr (.inr (.inr (.inl ⟨by omega, by omega, by omega, rfl, by omega, h6⟩)))))
  by_cases h7 : cfl c < 1
  · exact .inr (.inr (.inr (.inr (.inr (.inr (.inl ⟨by omega, by omega, by omega, rfl, by omega, by omega, h7⟩))))))
  cases h8 : wi (cfl c) 0 16777216
  · exact .inr (.inr (.inr (.inr (.inr (.inr (.inr ⟨by omega, by omega, by omega, rfl, by omega, by omega, by omega, rfl⟩))))))
  · exfalso
    apply h
    have := wi_true.1 h4
    have := wi_true.1 h8
    unfold CfgIn
    omega

set_option maxHeartbeats 1000000 in
set_option maxRecDepth 100000 in
theorem cfg_id (c : CfgD) (hs : c.1.size ≤ maxLen) (hi : idB c.1 = false) (w : World) :
    Calls Tryz.prog 138 #[cfgV c] w fun e w' => e = .returned (.int .i64 3) ∧ Below w.heap.size w w' := by
  have E := Lib.hid ((Env.start w).lay #[.string c.1, .int .i64 (cfi c), .int .i64 (cfe c), .int .i64 (cfc c), .int .i64 (cfl c)] 100)
  have HI := Lib.hid hi
  unfold cfgV
  clear hi
  go_enter Tryz.func138, Tryz.ntmps138
  go_wp2_with fail
  refine (bid_any c.1 hs _).mono ?_
  rw [HI.out]
  rintro e' w' ⟨rfl, rfl⟩
  go_wp2
  go_ret
  exact ⟨rfl, E.out.bel⟩

set_option maxHeartbeats 2000000 in
set_option maxRecDepth 100000 in
theorem cfg_arg (c : CfgD) (hs : c.1.size ≤ maxLen) (hi : idB c.1 = true) (hbad : CfgBad (cfi c) (cfe c) (cfc c) (cfl c)) (w : World) :
    Calls Tryz.prog 138 #[cfgV c] w fun e w' => e = .returned (.int .i64 1) ∧ Below w.heap.size w w' := by
  have E := Lib.hid ((Env.start w).lay #[.string c.1, .int .i64 (cfi c), .int .i64 (cfe c), .int .i64 (cfc c), .int .i64 (cfl c)] 100)
  have HI := Lib.hid hi
  unfold cfgV
  clear hi
  obtain ⟨be, hbe⟩ : ∃ b, wi (cfe c) 0 16777216 = b := ⟨_, rfl⟩
  obtain ⟨bl, hbl⟩ : ∃ b, wi (cfl c) 0 16777216 = b := ⟨_, rfl⟩
  have HVE := Lib.hid hbe
  have HVL := Lib.hid hbl
  unfold CfgBad at hbad
  rw [hbe, hbl] at hbad
  clear hbe hbl
  generalize cfi c = vi at *
  generalize cfe c = ve at *
  generalize cfc c = vc at *
  generalize cfl c = vl at *
  rcases hbad with h | ⟨h1, h⟩ | ⟨h1, h2, h⟩ | ⟨h1, h2, h3, hv⟩ | ⟨h1, h2, h3, hv, h⟩ | ⟨h1, h2, h3, hv, h4, h⟩ | ⟨h1, h2, h3, hv, h4, h5, h⟩ | ⟨h1, h2, h3, hv, h4, h5, h6, hw⟩
  all_goals
    try subst hw
    try subst hv
    go_enter Tryz.func138, Tryz.ntmps138
    go_wp2_with fail
    refine (bid_any c.1 hs _).mono ?_
    rw [HI.out]
    rintro e' w' ⟨rfl, rfl⟩
    go_wp2_with (first
      | (go_at_call 132; (with_reducible refine (wval_is ve _ HVE.out _).mono ?_); rintro e' w' ⟨rfl, rfl⟩)
      | (go_at_call 132; (with_reducible refine (wval_is vl _ HVL.out _).mono ?_); rintro e' w' ⟨rfl, rfl⟩))
    all_goals first
      | (exfalso; omega)
      | (go_ret; exact ⟨rfl, E.out.bel⟩)

set_option maxHeartbeats 2000000 in
set_option maxRecDepth 100000 in
theorem cfg_ok (c : CfgD) (hi : idB c.1 = true) (hc : CfgIn c) (w : World) :
    Calls Tryz.prog 138 #[cfgV c] w fun e w' => e = .returned (.int .i64 0) ∧ Below w.heap.size w w' := by
  have E := Lib.hid ((Env.start w).lay #[.string c.1, .int .i64 (cfi c), .int .i64 (cfe c), .int .i64 (cfc c), .int .i64 (cfl c)] 100)
  have HI := Lib.hid hi
  have hs : c.1.size ≤ maxLen := by have := (idB_ne hi).2; unfold maxLen; omega
  unfold cfgV
  unfold CfgIn at hc
  clear hi
  have HVE := Lib.hid (show wi (cfe c) 0 16777216 = true from wi_true.2 ⟨by omega, by omega⟩)
  have HVL := Lib.hid (show wi (cfl c) 0 16777216 = true from wi_true.2 ⟨by omega, by omega⟩)
  obtain ⟨h1, h2, h3, h4, h5, h6, h7, h8⟩ := hc
  generalize cfi c = vi at *
  generalize cfe c = ve at *
  generalize cfc c = vc at *
  generalize cfl c = vl at *
  go_enter Tryz.func138, Tryz.ntmps138
  go_wp2_with fail
  refine (bid_any c.1 hs _).mono ?_
  rw [HI.out]
  rintro e' w' ⟨rfl, rfl⟩
  go_wp2_with (first
    | (go_at_call 132; (with_reducible refine (wval_is ve _ HVE.out _).mono ?_); rintro e' w' ⟨rfl, rfl⟩)
    | (go_at_call 132; (with_reducible refine (wval_is vl _ HVL.out _).mono ?_); rintro e' w' ⟨rfl, rfl⟩))
  all_goals first
    | (exfalso; omega)
    | (go_ret; exact ⟨rfl, E.out.bel⟩)
theorem cfg_any (c : CfgD) (hs : c.1.size ≤ maxLen) (w : World) :
    Calls Tryz.prog 138 #[cfgV c] w fun e w' => e = .returned (.int .i64 (cfgE c)) ∧ Below w.heap.size w w' := by
  unfold cfgE
  by_cases hi : idB c.1 = true
  · rw [if_pos hi]
    by_cases hc : CfgIn c
    · rw [if_pos hc]; exact cfg_ok c hi hc w
    · rw [if_neg hc]; exact cfg_arg c hs hi (cfg_bad hc) w
  · rw [if_neg hi]; exact cfg_id c hs (by simpa using hi) w
/-- a new node -/
def NSt.start (c : CfgD) : NSt := ⟨c, 0, 0, 0, [], []⟩
theorem NGood.start {c : CfgD} (h : cfgE c = 0) : NGood (NSt.start c) := by
  obtain ⟨h1, h2⟩ := cfgE_zero h
  exact ⟨h1, h2, Int.le_refl _, (show (0 : Int) ≤ 1073741824 by decide), by show (0 : Int) = 0 / cfe c; rw [Int.zero_ediv], Int.le_refl _, (show (0 : Int) ≤ 1073741824 by decide), ⟨by simp [NSt.start], by simp [NSt.start], by simp [NSt.start]⟩, by simp [NSt.start], by simp [NSt.start], by simp [NSt.start]⟩
theorem node_new {c : CfgD} {w : World} {b : Nat} (h : Blk w b 167 (nodeCs c 0 0 0 (.slice none 0 0) (.slice none 0 0))) : NodeAt (· = b) w b (NSt.start c) :=
  ⟨none, 0, 0, .slice none 0 0, [], h, ⟨rfl, Reads.none_, by simp⟩, rfl, ⟨Nat.le_refl _, Nat.zero_le _⟩, .inl ⟨rfl, rfl⟩, rfl, (fun g hg => by cases hg), ⟨fun h => by simp at h, by simp⟩, fun k hk => hk ▸ h.lt⟩

set_option maxHeartbeats 1000000 in
set_option maxRecDepth 100000 in
theorem new_no (c : CfgD) (hs : c.1.size ≤ maxLen) (e0 : Int) (he : cfgE c = e0) (hz : e0 ≠ 0) (w : World) :
    Calls Tryz.prog 109 #[cfgV c] w fun e w' => e = .returned (.tuple #[.pointer none, .int .i64 e0]) ∧ Below w.heap.size w w' := by
  have E := Lib.hid ((Env.start w).lay #[.string c.1, .int .i64 (cfi c), .int .i64 (cfe c), .int .i64 (cfc c), .int .i64 (cfl c)] 100)
  have HE := Lib.hid he
  have HC := Lib.hid (fun W => cfg_any c hs W)
  rw [HE.out] at HC
  unfold cfgV at HC ⊢
  clear he
  go_enter Tryz.func109, Tryz.ntmps109
  go_wp2_with fail
  refine (HC.out _).mono ?_
  rintro e' w1 ⟨rfl, hb1⟩
  have E1 := Lib.hid (E.out.below hb1)
  clear hb1
  go_wp2
  all_goals first
    | (exfalso; omega)
    | exact bodyPost_ret (v := .tuple #[.pointer none, .int .i64 e0]) (by simp [results, Tryz.results109, go_sem]) rfl ⟨rfl, E1.out.bel⟩
/-- the answer of New that goes -/
def NewIs (c : CfgD) (w : World) (e : Ending) (w' : World) : Prop := ∃ b, e = .returned (.tuple #[.pointer (some ⟨b, 0, none⟩), .int .i64 0]) ∧ w.heap.size ≤ b ∧ NodeAt (· = b) w' b (NSt.start c) ∧ Below w.heap.size w w'

set_option maxHeartbeats 1000000 in
set_option maxRecDepth 100000 in
theorem new_ok (c : CfgD) (he : cfgE c = 0) (w : World) :
    Calls Tryz.prog 109 #[cfgV c] w (NewIs c w) := by
  have hs : c.1.size ≤ maxLen := by have := (idB_ne (cfgE_zero he).1).2; unfold maxLen; omega
  have E := Lib.hid ((Env.start w).lay #[.string c.1, .int .i64 (cfi c), .int .i64 (cfe c), .int .i64 (cfc c), .int .i64 (cfl c)] 100)
  have HE := Lib.hid he
  have HC := Lib.hid (fun W => cfg_any c hs W)
  rw [HE.out] at HC
  unfold cfgV at HC ⊢
  clear he
  go_enter Tryz.func109, Tryz.ntmps109
  go_wp2_with fail
  refine (HC.out _).mono ?_
  rintro e' w1 ⟨rfl, hb1⟩
  have E1 := Lib.hid (E.out.below hb1)
  clear hb1
  have x0 := E1.out.hd.cell 0
  have x1 := E1.out.hd.cell 1
  have x2 := E1.out.hd.cell 2
  have x3 := E1.out.hd.cell 3
  have x4 := E1.out.hd.cell 4
  simp at x0 x1 x2 x3 x4
  have hs1 := E1.out.bel.size
  have E2 := Lib.hid (E1.out.lay (nodeCs c 0 0 0 (.slice none 0 0) (.slice none 0 0)) 167)
  simp only [nodeCs] at E2
  go_wp2
  exact bodyPost_ret (v := .tuple #[.pointer (some ⟨w1.heap.size, 0, none⟩), .int .i64 0]) (by simp [results, Tryz.results109, go_sem]) rfl ⟨_, rfl, hs1, node_new E2.out.hd, E2.out.bel⟩

section
variable {X : Nat → Prop} {w : World} {b pn pc : Nat} {A : Option Addr} {sv : Value} {l : List PeerT} {s : NSt}
set_option maxHeartbeats 400000 in
set_option maxRecDepth 100000 in
theorem now_any (h : NodeIs X w b A pn pc sv l s) :
    Calls Tryz.prog 112 #[.pointer (some ⟨b, 0, none⟩)] w fun e w' => e = .returned (.int .i64 s.now) ∧ w = w' := by
  have hbl := h.blk.lt
  have b5 := h.blk.cell 5
  simp [nodeCs] at b5
  clear h
  go_enter Tryz.func112, Tryz.ntmps112
  go_wp2
  go_ret
  exact ⟨rfl, rfl⟩



















/-- the answer of Tick, whatever -/
def TkIs (X : Nat → Prop) (b : Nat) (s : NSt) (ticks : Int) (w : World) (e : Ending) (w' : World) : Prop :=
  if s.tickE ticks = 0 then (∃ A pn pc sv l, TickIs X b A pn pc sv l s ticks w e w') else e = .returned (.tuple #[.slice none 0 0, .slice none 0 0, .int .i64 (s.tickE ticks)]) ∧ w = w'
theorem tick_any (h : NodeIs X w b A pn pc sv l s) (hg : NGood s) (ticks : Int) :
    Calls Tryz.prog 113 #[.pointer (some ⟨b, 0, none⟩), .int .i64 ticks] w (TkIs X b s ticks w) := by
  unfold TkIs
  by_cases hz : s.tickE ticks = 0
  · refine (tick_ok h hg ticks hz).mono fun e w' hh => ?_
    rw [if_pos hz]; exact ⟨_, _, _, _, _, hh⟩
  · have hz2 := hz
    unfold NSt.tickE at hz2 ⊢
    by_cases h1 : ticks < 1 ∨ 1073741824 < ticks
    · refine (tick_arg b s ticks h1 w).mono fun e w' hh => ?_
      rw [if_pos h1, if_neg (by decide)]; exact hh
    · rw [if_neg h1] at hz2
      by_cases h2 : 1073741824 < s.now + ticks ∨ 64 ≤ ticks / cfe s.c
      · refine (tick_large b s hg.cfg _ _ ticks (by omega) (by omega) hg.now0 hg.now1 h2 w h.blk).mono fun e w' hh => ?_
        rw [if_neg h1, if_pos h2, if_neg (by decide)]; exact hh
      · rw [if_neg h2] at hz2; exact absurd rfl hz2
end
end Go.Proofs.YthimchhnhhchkaaGreatDoor

namespace Go.Proofs.YthimchhnhhchkaaGreatDoor
open Go.RowKit Go.Lib
set_option linter.unusedSimpArgs false
set_option linter.unusedVariables false








































section
variable {X : Nat → Prop} {w : World} {b pn pc : Nat} {A : Option Addr} {sv : Value} {l : List PeerT} {s : NSt}
























































































end
end Go.Proofs.YthimchhnhhchkaaGreatDoor

namespace Go.Proofs.YthimchhnhhchkaaGreatDoor
open Go.RowKit Go.Lib
set_option linter.unusedSimpArgs false
set_option linter.unusedVariables false



































section
variable {X : Nat → Prop} {w : World} {b pn pc : Nat} {A : Option Addr} {sv : Value} {l : List PeerT} {s : NSt}





































































































































































































































































end
end Go.Proofs.YthimchhnhhchkaaGreatDoor

namespace Go.Proofs.YthimchhnhhchkaaGreatDoor
open Go.RowKit Go.Lib
set_option linter.unusedSimpArgs false
set_option linter.unusedVariables false

theorem isSub_no {id : ByteArray} {th : Int} {p : TriD} (h : isSub id th p = false) : eqB p.1 id = false ∨ (eqB p.1 id = true ∧ (p.2.1 == th) = false) := by
  unfold isSub at h
  cases h1 : eqB p.1 id
  · exact .inl rfl
  · rw [h1] at h; exact .inr ⟨rfl, by simpa using h⟩












































































































end Go.Proofs.YthimchhnhhchkaaGreatDoor

namespace Go.Proofs.YthimchhnhhchkaaGreatDoor
open Go.RowKit Go.Lib
set_option linter.unusedSimpArgs false
set_option linter.unusedVariables false


















































































































































































































end Go.Proofs.YthimchhnhhchkaaGreatDoor

namespace Go.Proofs.YthimchhnhhchkaaGreatDoor
open Go.RowKit Go.Lib
set_option linter.unusedSimpArgs false
set_option linter.unusedVariables false








































/-- which of the four tests fails first, if any -/
def RCfgBad (c : CfgD) (a1 a2 a3 a4 : Bool) : Prop := wi (cfi c) 0 2147483647 = a1 ∧ wi (cfe c) 1 16777216 = a2 ∧ wi (cfl c) 1 16777216 = a3 ∧ wi (cfc c) 1 64 = a4






















































end Go.Proofs.YthimchhnhhchkaaGreatDoor

namespace Go.Proofs.YthimchhnhhchkaaGreatDoor
open Go.RowKit Go.Lib
set_option linter.unusedSimpArgs false
set_option linter.unusedVariables false

/-- the place of a name, or -1 -/
def ixD (D : List PeerD) (id : ByteArray) : Int := match idxOf D id with | some k => (k : Int) | none => -1














section
variable {X : Nat → Prop} {w : World} {b pn pc : Nat} {A : Option Addr} {sv : Value} {l : List PeerT} {s : NSt}















































































































































































































theorem ixD_none {D : List PeerD} {id : ByteArray} (h : (idxOf D id).isSome = false) : ixD D id = -1 := by
  unfold ixD
  cases hi : idxOf D id with
  | none => rfl
  | some k => rw [hi] at h; cases h
theorem ixD_some {D : List PeerD} {id : ByteArray} (h : ¬ (idxOf D id).isSome = false) : ∃ k : Nat, ixD D id = (k : Int) := by
  unfold ixD
  cases hi : idxOf D id with
  | none => rw [hi] at h; exact absurd rfl h
  | some k => exact ⟨k, rfl⟩
theorem ixI_neg {P : TriD → Bool} {S : List TriD} (h : ¬ 0 ≤ ixI P S) : ixI P S = -1 := by
  unfold ixI at h ⊢
  cases hi : S.findIdx? P with
  | none => rfl
  | some k => rw [hi] at h; exact absurd (show (0 : Int) ≤ (k : Int) by omega) h
























end
end Go.Proofs.YthimchhnhhchkaaGreatDoor

namespace Go.Proofs.YthimchhnhhchkaaGreatDoor
open Go.RowKit Go.Lib
set_option linter.unusedSimpArgs false
set_option linter.unusedVariables false









theorem filter_snoc_no {S : List TriD} {id : ByteArray} {k : Nat} (hk : k < S.length) (he : eqB (S[k]'hk).1 id = true) : (S.take (k + 1)).filter (notOf id) = (S.take k).filter (notOf id) := take_filter_skip hk (by unfold notOf; rw [he]; rfl)
theorem filter_snoc_yes {S : List TriD} {id : ByteArray} {k : Nat} (hk : k < S.length) (he : eqB (S[k]'hk).1 id = false) : (S.take (k + 1)).filter (notOf id) = (S.take k).filter (notOf id) ++ [S[k]'hk] := take_filter_keep hk (by unfold notOf; rw [he]; rfl)
/-- while the subs that stay are collected -/
def FRel (w4 : World) (S : List TriD) (id : ByteArray) (k : Nat) (v : Value) (wr : World) : Prop :=
  wr.ownsRow w4.heap.size 187 3 v ((S.take k).filter (notOf id)).length (cells3 ((S.take k).filter (notOf id))) ∧ Below w4.heap.size w4 wr
theorem FRel.skip {w4 wr w1 : World} {S : List TriD} {id : ByteArray} {k : Nat} {v : Value} (h : FRel w4 S id k v wr) (hb : Below wr.heap.size wr w1) (hk : k < S.length) (he : eqB (S[k]'hk).1 id = true) : FRel w4 S id (k + 1) v w1 := by
  unfold FRel
  rw [filter_snoc_no hk he]
  exact ⟨ownsRow_below h.1 hb, h.2.trans (hb.mono h.2.size)⟩
theorem FRel.keep {w4 wr w1 w2 : World} {S : List TriD} {id : ByteArray} {k : Nat} {v v' : Value} (h : FRel w4 S id k v wr) (hb : Below wr.heap.size wr w1) (hb2 : Below w4.heap.size w1 w2) (hk : k < S.length) (he : eqB (S[k]'hk).1 id = false)
    (ho : w2.ownsRow w4.heap.size 187 3 v' (((S.take k).filter (notOf id)).length + 1) (cells3 ((S.take k).filter (notOf id)) ++ cells3 [S[k]'hk])) : FRel w4 S id (k + 1) v' w2 := by
  unfold FRel
  rw [filter_snoc_yes hk he, cells3_app, List.length_append]
  exact ⟨ho, (h.2.trans (hb.mono h.2.size)).trans hb2⟩

section
variable {X : Nat → Prop} {w : World} {b pn pc : Nat} {A : Option Addr} {sv : Value} {l : List PeerT} {s : NSt}





























































































































































end
end Go.Proofs.YthimchhnhhchkaaGreatDoor

namespace Go.Proofs.YthimchhnhhchkaaGreatDoor
open Go.RowKit Go.Lib
set_option linter.unusedSimpArgs false
set_option linter.unusedVariables false

theorem reads3_head {w : World} {B n k : Nat} {A : Option Addr} {S : List TriD} (h : Reads w B 3 A n (cells3 S)) (hl : S.length = n) (hk : k ≤ n) : Reads w B 3 A k (cells3 (S.take k)) := by
  refine ⟨by rw [cells3_len, List.length_take]; omega, fun hn => ?_⟩
  obtain ⟨ad, e, hb, hc⟩ := h.2 (by omega)
  refine ⟨ad, e, hb, fun j u hj => hc j u ?_⟩
  rw [← cells3_take, List.getElem?_take] at hj
  split at hj
  · exact hj
  · cases hj



















section
variable {X : Nat → Prop} {w : World} {b pn pc : Nat} {A : Option Addr} {sv : Value} {l : List PeerT} {s : NSt}































































































end
end Go.Proofs.YthimchhnhhchkaaGreatDoor

namespace Go.Proofs.YthimchhnhhchkaaGreatDoor
open Go.RowKit Go.Lib
set_option linter.unusedSimpArgs false
set_option linter.unusedVariables false

def cellsZ (l : List Int) : List Value := l.map fun x => .int .i64 x
def atZ (l : List Int) (i : Nat) : Int := l.getD i 0
def pickT (l : List ByteArray) (i : Int) : ByteArray := if l.length = 0 then ByteArray.empty else l.getD ((i % 18446744073709551616).toNat % l.length) ByteArray.empty




























end Go.Proofs.YthimchhnhhchkaaGreatDoor

namespace Go.Proofs.YthimchhnhhchkaaGreatDoor
open Go.RowKit Go.Lib
set_option linter.unusedSimpArgs false
set_option linter.unusedVariables false


















theorem wrap64_nat (j : Nat) (h : j ≤ 9223372036854775807) : wrap64 (j : Int) = (j : Int) := by unfold wrap64; omega
theorem wrapu_nat (j : Nat) (h : j ≤ 9223372036854775807) : IntKind.u64.wrap (j : Int) = (j : Int) := by rw [IntKind.wrap_u64]; omega
theorem tmod_pick (i : Int) (n : Nat) : (IntKind.u64.wrap i).tmod (n : Int) = (((i % 18446744073709551616).toNat % n : Nat) : Int) := by
  rw [IntKind.wrap_u64]
  have h : 0 ≤ i % 18446744073709551616 := Int.emod_nonneg _ (by decide)
  generalize i % 18446744073709551616 = x at *
  rw [Int.tmod_eq_emod_of_nonneg h, Int.natCast_emod, Int.toNat_of_nonneg h]

















end Go.Proofs.YthimchhnhhchkaaGreatDoor

namespace Go.Proofs.YthimchhnhhchkaaGreatDoor
open Go.RowKit Go.Lib
set_option linter.unusedSimpArgs false
set_option linter.unusedVariables false

def NSt.tk (s : NSt) (g : Int) : NSt := if s.tickE g = 0 then (s.ticked g).tell else s
def NSt.tkM (s : NSt) (g : Int) : Nat := if s.tickE g = 0 then s.many g else 0
def NSt.tkT (s : NSt) (g : Int) : List ByteArray := if s.tickE g = 0 then beatsOf s.c s.seq (s.many g) else []
def NSt.tkN (s : NSt) (g : Int) : List TriD := if s.tickE g = 0 then (s.ticked g).notes else []
theorem NGood.tk {s : NSt} (h : NGood s) (g : Int) : NGood (s.tk g) := by
  unfold NSt.tk
  split
  · next he => exact (h.ticked he).tell
  · exact h
theorem NSt.tkM_len (s : NSt) (g : Int) : (s.tkT g).length = s.tkM g := by
  unfold NSt.tkM NSt.tkT
  split
  · exact beatsOf_len _ _ _
  · rfl
theorem NSt.notes_le {s : NSt} (h : NGood s) : s.notes.length ≤ 8 := Nat.le_trans (notesOf_le _ _) h.eight
theorem NSt.tkN_le {s : NSt} (h : NGood s) (g : Int) : (s.tkN g).length ≤ 8 := by
  unfold NSt.tkN
  split
  · next he => exact NSt.notes_le (h.ticked he)
  · simp
theorem NSt.hearN_le {s : NSt} (h : NGood s) (x : ByteArray) : (s.hearN x).length ≤ 8 := by
  unfold NSt.hearN
  split
  · exact NSt.notes_le (h.mid x)
  · simp
theorem NSt.joinN_le {s : NSt} (h : NGood s) (id : ByteArray) (th : Int) : (s.joinN id th).length ≤ 8 := by
  unfold NSt.joinN
  split
  · next he => exact NSt.notes_le (h.plus he)
  · simp
theorem tkM_le {s : NSt} (h : NGood s) (g : Int) : s.tkM g ≤ 100 := by
  unfold NSt.tkM
  split
  · next he =>
    have hc := h.cfg
    unfold CfgIn at hc
    unfold NSt.tickE at he
    unfold NSt.many
    obtain ⟨-, -, hc1, hc2, -⟩ := hc
    by_cases h1 : g < 1 ∨ 1073741824 < g
    · rw [if_pos h1] at he; cases he
    · rw [if_neg h1] at he
      by_cases h2 : 1073741824 < s.now + g ∨ 64 ≤ g / cfe s.c
      · rw [if_pos h2] at he; cases he
      · generalize cfe s.c = ev at *
        have h3 : g / ev < 64 := by omega
        have h4 : g < 64 * ev := Int.lt_mul_of_ediv_lt (by omega) h3
        have h5 : (s.now + g) / ev ≤ (s.now + 64 * ev) / ev := Int.ediv_le_ediv (by omega) (by omega)
        rw [Int.add_mul_ediv_right _ _ (by omega)] at h5
        omega
  · omega






theorem NodeAt.xlt {Y : Nat → Prop} {W : World} {b : Nat} {s : NSt} (h : NodeAt Y W b s) : ∀ k, Y k → k < W.heap.size := by
  obtain ⟨_, _, _, _, _, h⟩ := h
  exact h.xlt
section
variable {w W W' : World} {b b' : Nat} {s s' : NSt} {Y : Nat → Prop}



































































































































end
end Go.Proofs.YthimchhnhhchkaaGreatDoor

namespace Go.Proofs.YthimchhnhhchkaaGreatDoor
open Go.RowKit Go.Lib
set_option linter.unusedSimpArgs false
set_option linter.unusedVariables false

theorem slT_info : (Tryz.prog.info? 9).map (fun i => (i.zero, i.size, i.bytes)) = some (some (.string ByteArray.empty), 1, 16) := by kernel_rfl
theorem slT_zone : ∀ u ∈ (Value.cells (.string ByteArray.empty)).toList, u.oneCell' = true := by decide
/-- a row of this kind that the call owns -/
def NewT (n : Nat) (xs : List Value) (w : World) (e : Ending) (w' : World) : Prop := ∃ A c, e = .returned (.slice A n c) ∧ w'.ownsRow w.heap.size 9 1 (.slice A n c) n xs ∧ Below w.heap.size w w'


























abbrev SlAT := Option Addr × Nat × Nat × List Value
def slVT (s : SlAT) : Value := .slice s.1 s.2.1 s.2.2.1
def sumNT (ss : List SlAT) : Nat := (ss.map (·.2.1)).sum
theorem sumNT_take (ss : List SlAT) (k : Nat) (h : k < ss.length) : sumNT (ss.take (k + 1)) = sumNT (ss.take k) + (ss[k]'h).2.1 := by
  unfold sumNT
  rw [List.take_succ_eq_append_getElem h, List.map_append, List.sum_append]
  simp
theorem sumNT_le : ∀ (ss : List SlAT) (m : Nat), (∀ s ∈ ss, s.2.1 ≤ m) → sumNT ss ≤ ss.length * m
  | [], m, _ => by simp [sumNT]
  | s :: ss, m, h => by
    have := sumNT_le ss m (fun x hx => h x (List.mem_cons_of_mem _ hx))
    have h1 := h s (by simp)
    unfold sumNT at *
    simp only [List.map_cons, List.sum_cons, List.length_cons, Nat.succ_mul]
    omega


































































































/-- a row that was changed in place -/
def CutT (base g cap n : Nat) (xs : List Value) (w : World) (e : Ending) (w' : World) : Prop := e = .returned (.slice (some ⟨g, 0, none⟩) n cap) ∧ w'.ownsRow base 9 1 (.slice (some ⟨g, 0, none⟩) n cap) n xs ∧ w.grownBy w' (some g)

set_option maxRecDepth 100000 in
set_option maxHeartbeats 2000000 in
theorem slT_delete (base g cap n i : Nat) (xs : List Value) (hin : i < n) (hone : ∀ u ∈ xs, u.oneCell' = true) (w : World) (hown : w.ownsRow base 9 1 (.slice (some ⟨g, 0, none⟩) n cap) n xs) :
    Calls Tryz.prog 115 #[.slice (some ⟨g, 0, none⟩) n cap, .int .i64 i, .int .i64 ((i : Int) + 1)] w (CutT base g cap (n - 1) (xs.take (i * 1) ++ xs.drop ((i + 1) * 1)) w) := by
  obtain ⟨i0, hi, hz0, hz1, hz2⟩ := info_parts slT_info
  obtain ⟨d, rfl⟩ : ∃ d, n = i + 1 + d := ⟨n - (i + 1), by omega⟩
  have hcp := ownsRow_cap hown
  have hxl := hown.1
  have hcells := hown.cells (g := g) rfl
  have HO := Lib.hid (ownsRow_head hown (show i ≤ i + 1 + d by omega))
  have ONE := Lib.hid (show ∀ u ∈ xs.drop ((i + 1) * 1), u.oneCell' = true from fun u hu => hone u (List.mem_of_mem_drop hu))
  have hcm := hcp.2
  have hnc := hcp.1
  unfold maxLen at hcm
  have HND := Lib.hid (show ∀ j u, (xs.drop ((i + 1) * 1))[j]? = some u → w.cell? ((⟨g, i + 1, none⟩ : Addr).add j) = some u by
    intro j u hj
    rw [List.getElem?_drop] at hj
    have := hcells _ u hj
    have hadd : ((⟨g, i + 1, none⟩ : Addr)).add j = (⟨g, 0, none⟩ : Addr).add ((i + 1) * 1 + j) := by unfold Addr.add; (repeat' split) <;> simp_all
    rw [hadd]
    exact this)
  have HN0 := Lib.hid (show d = 0 → xs.drop ((i + 1) * 1) = [] from fun h => by subst h; exact List.drop_of_length_le (by rw [hxl]; omega))
  have HLEN := Lib.hid (show (xs.drop ((i + 1) * 1)).length = d * 1 by rw [List.length_drop, hxl]; omega)
  clear hcells hone hown hcp hxl
  rw [show i + 1 + d - 1 = i + d by omega]
  generalize xs.take (i * 1) = xa at *
  generalize xs.drop ((i + 1) * 1) = xb at *
  have e1 : ((i : Int) + 1).toNat = i + 1 := by omega
  have hne : ¬ ((i : Int) = (i : Int) + 1) := by omega
  have hb1 : (i : Int) + 1 ≤ (i : Int) + 1 + d := by omega
  have hb2 : (0 : Int) ≤ (i : Int) + 1 := by omega
  have hb3 : (i : Int) ≤ cap := by omega
  have hci : ¬ (cap = i) := by omega
  have hcd : ¬ (cap = i + d) := by omega
  have hb4 : (i : Int) ≤ (i : Int) + 1 := by omega
  have close : ∀ (W w1 w2 : World), W.os = w.os → W.tape = w.tape → W.output = w.output → W.heap = w.heap → W.grownBy w1 (some g) → w1.grownBy w2 (some g) → w.grownBy w2 (some g) := fun W w1 w2 h1 h2 h3 h4 h5 h6 =>
    grownBy_trans ⟨h5.os.trans h1, h5.tape.trans h2, h5.output.trans h3, by rw [← h4]; exact h5.size, fun k hk hn => (h5.block k (by rw [h4]; exact hk) hn).trans (by rw [h4])⟩ h6
  have CL := Lib.hid close
  clear close
  by_cases hc : cap = i + 1
  · obtain rfl : d = 0 := by omega
    subst hc
    have HX0 := Lib.hid (HN0.out rfl)
    go_enter Tryz.func115, Tryz.ntmps115
    go_wp2_with fail
    go_region_law ((refine step_append_spare (by rfl) _ _ _ (by rfl) base 9 i0 1 Tryz.underlying33 hi hz1 g i (i + 1) xa (by rfl) HO.out _ 0 _ xb (by rfl) HLEN.out (by intro j u hj; rw [HX0.out] at hj; cases hj) ONE.out (by omega) ?_; intro w1 hown1 hgrow1))
    all_goals
      have HO1 := Lib.hid hown1
      have HG1 := Lib.hid hgrow1
      clear hown1 hgrow1
      go_wp2_with ((refine wpList_clear_own (by rfl) _ _ (by rfl) 9 i0 _ 1 Tryz.underlying33 hi hz0 rfl slT_zone base g (i + 0) (i + 1) (xa ++ xb) HO1.out _ _ _ (by rfl) ?c0 ?c1 ?_); (case c0 => first | exact Nat.le_refl _ | omega); (case c1 => omega); intro w2 hown2 hgrow2)
      go_ret
      exact ⟨rfl, hown2, CL.out w.drew w1 w2 rfl rfl rfl rfl HG1.out hgrow2⟩
  · have hcd2 : ¬ (cap = i + 1 + d ∧ d = 0) := by omega
    go_enter Tryz.func115, Tryz.ntmps115
    go_wp2_with fail
    go_region_law ((refine step_append_spare (by rfl) _ _ _ (by rfl) base 9 i0 1 Tryz.underlying33 hi hz1 g i cap xa (by rfl) HO.out _ d _ xb (by rfl) HLEN.out HND.out ONE.out (by omega) ?_; intro w1 hown1 hgrow1))
    all_goals
      have HO1 := Lib.hid hown1
      have HG1 := Lib.hid hgrow1
      clear hown1 hgrow1
      go_wp2_with ((refine wpList_clear_own (by rfl) _ _ (by rfl) 9 i0 _ 1 Tryz.underlying33 hi hz0 rfl slT_zone base g (i + d) cap (xa ++ xb) HO1.out _ _ _ (by rfl) ?c0 ?c1 ?_); (case c0 => first | exact Nat.le_refl _ | omega); (case c1 => omega); intro w2 hown2 hgrow2)
      go_ret
      exact ⟨rfl, hown2, CL.out w.drew w1 w2 rfl rfl rfl rfl HG1.out hgrow2⟩

end Go.Proofs.YthimchhnhhchkaaGreatDoor

namespace Go.Proofs.YthimchhnhhchkaaGreatDoor
open Go.RowKit Go.Lib
set_option linter.unusedSimpArgs false
set_option linter.unusedVariables false

theorem clT_info : (Tryz.prog.info? 9).map (fun i => (i.zero, i.size, i.bytes)) = some (some (.string ByteArray.empty), 1, 16) := by kernel_rfl
set_option maxHeartbeats 1000000 in
set_option maxRecDepth 100000 in
theorem clT_nil (c : Nat) (w : World) :
    Calls Tryz.prog 111 #[.slice none 0 c] w fun e w' => e = .returned (.slice none 0 0) ∧ Below w.heap.size w w' := by
  have hnil := fun w => Lib.run_eql_slice_nil (P := Tryz.prog) w 33 9 none 0 c 0 0 Tryz.underlying33
  go_enter Tryz.func111, Tryz.ntmps111
  go_wp2
  go_ret
  exact ⟨rfl, Below.refl _ _⟩
set_option maxHeartbeats 1000000 in
set_option maxRecDepth 100000 in
theorem clT_some (ad : Addr) (c n B : Nat) (xs : List Value) (hm : n ≤ 1000) (h1 : ∀ u ∈ xs, u.oneCell' = true) (w : World) (hr : Reads w B 1 (some ad) n xs) (hB : B ≤ w.heap.size) :
    Calls Tryz.prog 111 #[.slice (some ad) n c] w (NewT n xs w) := by
  obtain ⟨i0, hi, hz0, hz1, hz2⟩ := info_parts clT_info
  have HO := Lib.hid (show (w.alloc (.cells #[] 9)).ownsRow w.heap.size 9 1 (.slice (some ⟨w.heap.size, 0, none⟩) 0 0) 0 [] from ⟨rfl, .inr ⟨w.heap.size, 0, #[], rfl, Nat.le_refl _, Blk.new _ _ _, Nat.le_refl _, Nat.zero_le _, rfl, rfl⟩⟩)
  have HR2 := Lib.hid (hr.alloc hB (.cells #[] 9))
  have H1 := Lib.hid h1
  clear h1 hr
  have hnil := fun w => Lib.run_eql_slice_nil (P := Tryz.prog) w 33 9 (some ad) n c 0 0 Tryz.underlying33
  go_enter Tryz.func111, Tryz.ntmps111
  go_wp2_with (at_builtin; refine wpList_appN _ rfl _ _ 33 rfl w.heap.size 9 i0 _ 1 16 Tryz.underlying33 hi hz0 hz1 hz2 rfl (by decide) _ _ _ rfl HO.out _ _ _ _ _ rfl HR2.out H1.out ?c1 ?c2 ?c3 ?_)
  case c1 => unfold maxLen; omega
  case c2 => omega
  case c3 => first | omega | simp
  intro v' w' hown hb
  try simp only [Nat.zero_add, List.nil_append] at hown
  obtain ⟨A9, c9, rfl⟩ := ownsRow_len hown
  have FIN := Lib.hid (show NewT n xs w (.returned (.slice A9 n c9)) w' from ⟨A9, c9, rfl, hown, ((Below.refl _ _).alloc (Nat.le_refl _) _).trans hb⟩)
  clear hown hb
  go_wp2
  go_ret
  exact FIN.out
theorem clT_any (A : Option Addr) (c n B : Nat) (xs : List Value) (hm : n ≤ 1000) (h1 : ∀ u ∈ xs, u.oneCell' = true) (w : World) (hr : Reads w B 1 A n xs) (hB : B ≤ w.heap.size) :
    Calls Tryz.prog 111 #[.slice A n c] w (NewT n xs w) := by
  cases A with
  | none =>
    rcases Nat.eq_zero_or_pos n with h0 | h0
    · subst h0
      obtain rfl : xs = [] := List.eq_nil_of_length_eq_zero (by have := hr.1; omega)
      exact (clT_nil c w).mono fun e w' ⟨k1, k2⟩ => ⟨none, 0, k1, World.ownsRow_nil _ _ _ _, k2⟩
    · obtain ⟨_, h, _⟩ := hr.2 h0
      cases h
  | some ad => exact clT_some ad c n B xs hm h1 w hr hB
end Go.Proofs.YthimchhnhhchkaaGreatDoor

namespace Go.Proofs.YthimchhnhhchkaaGreatDoor
open Go.RowKit Go.Lib
set_option linter.unusedSimpArgs false
set_option linter.unusedVariables false

/-- the colours of the blocks: 0 is nobody's; all that is owned is new since w -/
structure Col (w W : World) (F : Nat → Nat) : Prop where
  lo : ∀ k, F k ≠ 0 → w.heap.size ≤ k
  hi : ∀ k, F k ≠ 0 → k < W.heap.size
  bel : Below w.heap.size w W
/-- what a call did: it wrote blocks of the colours P alone; what is new and owned is of these colours too -/
structure Moved (P : Nat → Prop) (F : Nat → Nat) (W : World) (F' : Nat → Nat) (W' : World) : Prop where
  kept : Kept (fun k => P (F k)) W W'
  old : ∀ k, k < W.heap.size → F' k = F k
  new : ∀ k, W.heap.size ≤ k → F' k ≠ 0 → P (F' k)
/-- the blocks that are new behind a call, in one colour -/
def paint (F : Nat → Nat) (W W' : World) (c : Nat) : Nat → Nat := fun k => if W.heap.size ≤ k ∧ k < W'.heap.size then c else F k
section
variable {w W W' W2 : World} {F F' F2 : Nat → Nat} {P Q : Nat → Prop} {c c' b : Nat}
theorem paint_grow (h : Col w W F) {k : Nat} (hk : grow (fun k => F k = c) W W' k) : paint F W W' c k = c := by
  unfold paint
  split
  · rfl
  · next hn => exact hk.1.elim id (fun e => absurd ⟨e, hk.2⟩ hn)
theorem paint_new {k : Nat} (h1 : W.heap.size ≤ k) (h2 : k < W'.heap.size) : paint F W W' c k = c := by
  unfold paint
  rw [if_pos ⟨h1, h2⟩]
theorem Col.start (w : World) : Col w w (fun _ => 0) := ⟨fun k h => absurd rfl h, fun k h => absurd rfl h, Below.refl _ _⟩
theorem Col.below (h : Col w W F) (hb : Below W.heap.size W W') : Col w W' F := ⟨h.lo, fun k hk => Nat.lt_of_lt_of_le (h.hi k hk) hb.size, h.bel.trans (hb.mono h.bel.size)⟩
theorem Col.paint (h : Col w W F) (hc : c ≠ 0) (hk : Kept (fun k => F k = c) W W') : Col w W' (paint F W W' c) := by
  refine ⟨fun k hkk => ?_, fun k hkk => ?_, h.bel.trans (hk.below (fun k e => h.lo k (by rw [e]; exact hc)) h.bel.size)⟩
  · unfold Go.Proofs.YthimchhnhhchkaaGreatDoor.paint at hkk
    split at hkk
    · next hr => exact Nat.le_trans h.bel.size hr.1
    · exact h.lo k hkk
  · unfold Go.Proofs.YthimchhnhhchkaaGreatDoor.paint at hkk
    split at hkk
    · next hr => exact hr.2
    · exact Nat.lt_of_lt_of_le (h.hi k hkk) hk.size
theorem Moved.paint (h : Col w W F) (hk : Kept (fun k => F k = c) W W') : Moved (fun x => x = c) F W (paint F W W' c) W' :=
  ⟨hk, fun k hl => by
    unfold Go.Proofs.YthimchhnhhchkaaGreatDoor.paint
    rw [if_neg (by omega)], fun k hl h0 => by
    unfold Go.Proofs.YthimchhnhhchkaaGreatDoor.paint at h0 ⊢
    split at h0
    · next hr => rw [if_pos hr]
    · have := h.hi k h0; omega⟩
theorem Moved.below (h : Col w W F) (hb : Below W.heap.size W W') : Moved P F W F W' := ⟨.of_below hb, fun _ _ => rfl, fun k hl h0 => by have := h.hi k h0; omega⟩
theorem Moved.refl (h : Col w W F) : Moved P F W F W := ⟨Kept.refl _ _, fun _ _ => rfl, fun k hl h0 => by have := h.hi k h0; omega⟩
theorem Moved.mono (h : Moved P F W F' W') (hpq : ∀ c, P c → Q c) : Moved Q F W F' W' := ⟨h.kept.mono (fun k hk => .inl (hpq _ hk)), h.old, fun k hl h0 => hpq _ (h.new k hl h0)⟩
theorem Moved.trans (h : Moved P F W F' W') (h2 : Moved P F' W' F2 W2) : Moved P F W F2 W2 :=
  ⟨h.kept.then h2.kept (fun k hk => by
    by_cases hl : W.heap.size ≤ k
    · exact .inr hl
    · rw [h.old k (by omega)] at hk
      exact .inl hk), fun k hl => (h2.old k (Nat.lt_of_lt_of_le hl h.kept.size)).trans (h.old k hl), fun k hl h0 => by
    by_cases hl2 : W'.heap.size ≤ k
    · exact h2.new k hl2 h0
    · have e := h2.old k (by omega)
      rw [e] at h0 ⊢
      exact h.new k hl h0⟩
theorem Moved.col (h : Moved P F W F' W') (hC : Col w W F) {k c : Nat} (h0 : c ≠ 0) (hn : ¬ P c) : F' k = c ↔ F k = c := by
  by_cases hl : W.heap.size ≤ k
  · refine ⟨fun e => ?_, fun e => ?_⟩
    · have := h.new k hl (by rw [e]; exact h0)
      rw [e] at this
      exact absurd this hn
    · have := hC.hi k (by rw [e]; exact h0)
      omega
  · rw [h.old k (by omega)]
/-- a node of another colour -/
theorem Moved.hold {T : TypeId} {mk : Value → Value → Array Value} {D : List PeerD} {S : List TriD} (m : Moved P F W F' W') (hC : Col w W F) (h0 : c' ≠ 0) (hn : ¬ P c') (hp : HoldAt T mk (fun k => F k = c') W b D S) : HoldAt T mk (fun k => F' k = c') W' b D S :=
  (hp.kept m.kept (fun k h1 h2 => hn (by rw [h2] at h1; exact h1))).wide (fun k e => (m.col hC h0 hn).2 e) (fun k e => Nat.lt_of_lt_of_le (hC.hi k (by rw [(m.col hC h0 hn).1 e]; exact h0)) m.kept.size)
/-- the node itself -/
theorem Col.held {T : TypeId} {mk : Value → Value → Array Value} {D : List PeerD} {S : List TriD} (h : Col w W F) (hk : Kept (fun k => F k = c) W W') (hc : c ≠ 0) (hp : HoldAt T mk (grow (fun k => F k = c) W W') W' b D S) : HoldAt T mk (fun k => Go.Proofs.YthimchhnhhchkaaGreatDoor.paint F W W' c k = c) W' b D S :=
  hp.wide (fun k e => paint_grow h e) (fun k e => (h.paint hc hk).hi k (by rw [e]; exact hc))
/-- a row of one colour -/
def RowC (F : Nat → Nat) (c : Nat) (W : World) (e : TypeId) (size n : Nat) (v : Value) (xs : List Value) : Prop := W.ownsRow 0 e size v n xs ∧ ∀ k, v.ownBlock = some k → F k = c
theorem Moved.row {e : TypeId} {size n : Nat} {v : Value} {xs : List Value} (m : Moved P F W F' W') (hC : Col w W F) (h0 : c' ≠ 0) (hn : ¬ P c') (hr : RowC F c' W e size n v xs) : RowC F' c' W' e size n v xs :=
  ⟨m.kept.own hr.1 (fun k hk hx => hn (by rw [hr.2 k hk] at hx; exact hx)), fun k hk => (m.col hC h0 hn).2 (hr.2 k hk)⟩
/-- what is only read, of one colour -/
def ReadC (F : Nat → Nat) (c : Nat) (W : World) (size n : Nat) (A : Option Addr) (xs : List Value) : Prop := Reads W W.heap.size size A n xs ∧ (0 < n → ∀ a, A = some a → F a.block = c)
theorem reads_more {w : World} {B C size n : Nat} {A : Option Addr} {xs : List Value} (h : Reads w B size A n xs) (hC : B ≤ C) : Reads w C size A n xs :=
  ⟨h.1, fun hn => by
    obtain ⟨ad, e, hb, hc⟩ := h.2 hn
    exact ⟨ad, e, Nat.lt_of_lt_of_le hb hC, hc⟩⟩
theorem Moved.read {size n : Nat} {A : Option Addr} {xs : List Value} (m : Moved P F W F' W') (hC : Col w W F) (h0 : c' ≠ 0) (hn : ¬ P c') (hr : ReadC F c' W size n A xs) : ReadC F' c' W' size n A xs :=
  ⟨reads_more (m.kept.reads hr.1 (fun hp a ha hx => hn (by rw [hr.2 hp a ha] at hx; exact hx))) m.kept.size, fun hp a ha => (m.col hC h0 hn).2 (hr.2 hp a ha)⟩
/-- a block of one colour -/
def BlkC (F : Nat → Nat) (c : Nat) (W : World) (b : Nat) (T : TypeId) (cs : Array Value) : Prop := Blk W b T cs ∧ F b = c
theorem Moved.blk {T : TypeId} {cs : Array Value} (m : Moved P F W F' W') (hC : Col w W F) (h0 : c' ≠ 0) (hn : ¬ P c') (hr : BlkC F c' W b T cs) : BlkC F' c' W' b T cs :=
  ⟨m.kept.blk hr.1 (fun hx => hn (by rw [hr.2] at hx; exact hx)), (m.col hC h0 hn).2 hr.2⟩
end
end Go.Proofs.YthimchhnhhchkaaGreatDoor

namespace Go.Proofs.YthimchhnhhchkaaGreatDoor
open Go.RowKit Go.Lib
set_option linter.unusedSimpArgs false
set_option linter.unusedVariables false

/-- a node, and is it stopped? -/
abbrev NdB := NSt × Bool
structure TSt where
  L : List NdB
  way : List ByteArray
structure TGood (t : TSt) : Prop where
  five : t.L.length ≤ 5
  good : ∀ p ∈ t.L, NGood p.1
  way : t.way.length ≤ 1000
def TSt.lives (t : TSt) (i : Int) : Bool := decide (0 ≤ i) && decide (i < t.L.length) && !(t.L.map Prod.snd).getD i.toNat true
theorem lives_true {t : TSt} {i : Int} (h : t.lives i = true) : ∃ k : Nat, i = (k : Int) ∧ ∃ hk : k < t.L.length, (t.L[k]'hk).2 = false := by
  unfold TSt.lives at h
  simp only [Bool.and_eq_true, decide_eq_true_eq, Bool.not_eq_true'] at h
  obtain ⟨⟨h0, h1⟩, h2⟩ := h
  have hk : i.toNat < t.L.length := by omega
  refine ⟨i.toNat, by omega, hk, ?_⟩
  simpa [List.getD, hk] using h2
theorem lives_false {t : TSt} {i : Int} (h : t.lives i = false) : i < 0 ∨ (t.L.length : Int) ≤ i ∨ ∃ k : Nat, i = (k : Int) ∧ ∃ hk : k < t.L.length, (t.L[k]'hk).2 = true := by
  unfold TSt.lives at h
  by_cases h0 : 0 ≤ i
  · by_cases h1 : i < t.L.length
    · have hk : i.toNat < t.L.length := by omega
      refine .inr (.inr ⟨i.toNat, by omega, hk, ?_⟩)
      simpa [List.getD, hk, h0, h1] using h
    · exact .inr (.inl (by omega))
  · exact .inl (by omega)
theorem lives_of {t : TSt} {k : Nat} (hk : k < t.L.length) : t.lives (k : Int) = !(t.L[k]'hk).2 := by
  unfold TSt.lives
  simp [List.getD, hk]
/-- beats of the nodes that live -/
def manyOf (g : Int) : List NdB → Nat
  | [] => 0
  | p :: l => (if p.2 = true then 0 else p.1.many g) + manyOf g l
theorem manyOf_app (g : Int) (l m : List NdB) : manyOf g (l ++ m) = manyOf g l + manyOf g m := by
  induction l with
  | nil => simp [manyOf]
  | cons p l ih => simp only [List.cons_append, manyOf, ih]; omega
theorem manyOf_snoc (g : Int) (l : List NdB) (k : Nat) (hk : k < l.length) : manyOf g (l.take (k + 1)) = manyOf g (l.take k) + (if (l[k]'hk).2 = true then 0 else (l[k]'hk).1.many g) := by
  rw [List.take_succ_eq_append_getElem hk, manyOf_app]
  simp [manyOf]
def badB (g : Int) (p : NdB) : Bool := !p.2 && decide (p.1.tickE g ≠ 0)
def TSt.tickE (t : TSt) (g : Int) : Int := if g < 1 ∨ 1000 < g then 1 else if t.L.any (badB g) = true then 2 else if 1000 < t.way.length + manyOf g t.L then 10 else 0
def tick1 (g : Int) (p : NdB) : NdB := if p.2 = true then p else ((p.1.ticked g).tell, false)
def beats1 (g : Int) (p : NdB) : List ByteArray := if p.2 = true then [] else beatsOf p.1.c p.1.seq (p.1.many g)
def notes1b (g : Int) (p : NdB) : List TriD := if p.2 = true then [] else (p.1.ticked g).notes
def TSt.ticked (t : TSt) (g : Int) : TSt := if t.tickE g = 0 then ⟨t.L.map (tick1 g), t.way ++ t.L.flatMap (beats1 g)⟩ else t
def TSt.tickN (t : TSt) (g : Int) : List TriD := if t.tickE g = 0 then t.L.flatMap (notes1b g) else []
theorem beats1_len (g : Int) : ∀ l : List NdB, (l.flatMap (beats1 g)).length = manyOf g l
  | [] => rfl
  | p :: l => by
    simp only [List.flatMap_cons, List.length_append, manyOf, beats1_len g l]
    unfold beats1
    split
    · simp
    · rw [beatsOf_len]
/-- among ticks, after k nodes -/
def TSt.mid (t : TSt) (g : Int) (k : Nat) : TSt := ⟨(t.L.take k).map (tick1 g) ++ t.L.drop k, t.way ++ (t.L.take k).flatMap (beats1 g)⟩
def TSt.midN (t : TSt) (g : Int) (k : Nat) : List TriD := (t.L.take k).flatMap (notes1b g)
theorem TSt.mid_zero (t : TSt) (g : Int) : t.mid g 0 = t := by simp [TSt.mid]
theorem TSt.mid_all (t : TSt) (g : Int) (k : Nat) (hk : t.L.length ≤ k) : t.mid g k = ⟨t.L.map (tick1 g), t.way ++ t.L.flatMap (beats1 g)⟩ := by
  simp [TSt.mid, List.take_of_length_le hk, List.drop_of_length_le hk]
theorem TSt.mid_len (t : TSt) (g : Int) (k : Nat) : (t.mid g k).L.length = t.L.length := by
  simp [TSt.mid]; omega
theorem TSt.mid_at (t : TSt) (g : Int) (k j : Nat) (hj : j < t.L.length) (hkj : k ≤ j) : (t.mid g k).L[j]'(by rw [TSt.mid_len]; exact hj) = t.L[j]'hj := by
  simp only [TSt.mid]
  rw [List.getElem_append_right (by simp; omega)]
  simp [List.getElem_drop]
  congr 1
  omega
theorem TSt.mid_set (t : TSt) (g : Int) (k : Nat) (hk : k < t.L.length) : (t.mid g (k + 1)).L = (t.mid g k).L.set k (tick1 g (t.L[k]'hk)) := by
  simp only [TSt.mid]
  rw [List.take_succ_eq_append_getElem hk, List.map_append, List.set_append_right _ _ (by simp only [List.length_map, List.length_take]; omega)]
  have hlen : ((t.L.take k).map (tick1 g)).length = k := by simp; omega
  rw [hlen, Nat.sub_self, List.drop_eq_getElem_cons hk, List.set_cons_zero]
  simp
theorem TSt.mid_way (t : TSt) (g : Int) (k : Nat) (hk : k < t.L.length) : (t.mid g (k + 1)).way = (t.mid g k).way ++ beats1 g (t.L[k]'hk) := by
  simp only [TSt.mid]
  rw [List.take_succ_eq_append_getElem hk, List.flatMap_append]
  simp
theorem TSt.midN_snoc (t : TSt) (g : Int) (k : Nat) (hk : k < t.L.length) : t.midN g (k + 1) = t.midN g k ++ notes1b g (t.L[k]'hk) := by
  simp only [TSt.midN]
  rw [List.take_succ_eq_append_getElem hk, List.flatMap_append]
  simp
theorem notes_le8 {s : NSt} (h : NGood s) : s.notes.length ≤ 8 := Nat.le_trans (notesOf_le _ _) h.eight
theorem notes1b_le {p : NdB} {g : Int} (h : NGood p.1) (he : badB g p = false) : (notes1b g p).length ≤ 8 := by
  unfold notes1b
  unfold badB at he
  split
  · simp
  · next hp =>
    have : p.1.tickE g = 0 := by simpa [hp] using he
    exact notes_le8 (h.ticked this)
theorem flat_le {f : NdB → List TriD} : ∀ l : List NdB, (∀ p ∈ l, (f p).length ≤ 8) → (l.flatMap f).length ≤ 8 * l.length
  | [], _ => by simp
  | p :: l, h => by
    have h1 := h p (List.mem_cons_self ..)
    have h2 := flat_le l (fun q hq => h q (List.mem_cons_of_mem _ hq))
    simp only [List.flatMap_cons, List.length_append, List.length_cons]
    omega
theorem any_false {f : NdB → Bool} {l : List NdB} (h : l.any f = false) : ∀ p ∈ l, f p = false := by
  intro p hp
  by_cases hf : f p = true
  · have : l.any f = true := List.any_eq_true.2 ⟨p, hp, hf⟩
    rw [this] at h; cases h
  · simpa using hf
theorem tickE_zero {t : TSt} {g : Int} (h : t.tickE g = 0) : 1 ≤ g ∧ g ≤ 1000 ∧ (∀ p ∈ t.L, badB g p = false) ∧ t.way.length + manyOf g t.L ≤ 1000 := by
  unfold TSt.tickE at h
  by_cases h1 : g < 1 ∨ 1000 < g
  · rw [if_pos h1] at h; cases h
  · rw [if_neg h1] at h
    by_cases h2 : t.L.any (badB g) = true
    · rw [if_pos h2] at h; cases h
    · rw [if_neg h2] at h
      by_cases h3 : 1000 < t.way.length + manyOf g t.L
      · rw [if_pos h3] at h; cases h
      · exact ⟨by omega, by omega, any_false (by simpa using h2), by omega⟩
theorem tick1_good {p : NdB} {g : Int} (h : NGood p.1) (he : badB g p = false) : NGood (tick1 g p).1 := by
  unfold tick1
  unfold badB at he
  split
  · exact h
  · next hp =>
    have : p.1.tickE g = 0 := by simpa [hp] using he
    exact (h.ticked this).tell
theorem TGood.ticked {t : TSt} (h : TGood t) (g : Int) : TGood (t.ticked g) := by
  unfold TSt.ticked
  split
  · next he =>
    obtain ⟨h1, h2, h3, h4⟩ := tickE_zero he
    refine ⟨by simpa using h.five, fun p hp => ?_, by simp only [List.length_append, beats1_len]; exact h4⟩
    obtain ⟨q, hq, rfl⟩ := List.mem_map.1 hp
    exact tick1_good (h.good q hq) (h3 q hq)
  · exact h
theorem tickN_le {t : TSt} (h : TGood t) (g : Int) : (t.tickN g).length ≤ 40 := by
  unfold TSt.tickN
  split
  · next he =>
    obtain ⟨h1, h2, h3, h4⟩ := tickE_zero he
    have := flat_le (f := notes1b g) t.L (fun p hp => notes1b_le (h.good p hp) (h3 p hp))
    have := h.five
    omega
  · simp
/-! ### one node's call -/
def TSt.node (t : TSt) (i : Nat) (s : NSt) : TSt := ⟨t.L.set i (s, false), t.way⟩
theorem TGood.node {t : TSt} (h : TGood t) (i : Nat) {s : NSt} (hs : NGood s) : TGood (t.node i s) :=
  ⟨by simpa [TSt.node] using h.five, fun p hp => by
    rcases List.mem_or_eq_of_mem_set hp with hp | rfl
    · exact h.good p hp
    · exact hs, h.way⟩
def TSt.at (t : TSt) (i : Int) : NSt := ((t.L[i.toNat]?).map Prod.fst).getD (NSt.start (ByteArray.empty, 0, 0, 0, 0))
theorem TSt.at_is {t : TSt} {k : Nat} (hk : k < t.L.length) : t.at (k : Int) = (t.L[k]'hk).1 := by
  unfold TSt.at
  simp [hk]
def TSt.under (t : TSt) (i : Int) : Bool := decide (0 ≤ i) && decide (i < t.way.length)
def TSt.word (t : TSt) (i : Int) : ByteArray := t.way.getD i.toNat ByteArray.empty
def TSt.bringE (t : TSt) (i z : Int) : Int := if (t.under i && t.lives z) = true then (t.at z).hearE (t.word i) else 4
def TSt.bringN (t : TSt) (i z : Int) : List TriD := if (t.under i && t.lives z) = true then (t.at z).hearN (t.word i) else []
def TSt.brought (t : TSt) (i z : Int) : TSt := if (t.under i && t.lives z) = true then t.node z.toNat ((t.at z).heard (t.word i)) else t
def TSt.loseE (t : TSt) (i : Int) : Int := if t.under i = true then 0 else 4
def cutW (l : List ByteArray) (k : Nat) : List ByteArray := l.take k ++ l.drop (k + 1)
def TSt.lost (t : TSt) (i : Int) : TSt := if t.under i = true then ⟨t.L, cutW t.way i.toNat⟩ else t
def TSt.stopE (t : TSt) (i : Int) : Int := if t.lives i = true then 0 else 4
def TSt.stopped (t : TSt) (i : Int) : TSt := if t.lives i = true then ⟨t.L.set i.toNat (t.at i, true), t.way⟩ else t
def TSt.joinE (t : TSt) (i : Int) (id : ByteArray) (th : Int) : Int := if t.lives i = true then (t.at i).joinE id th else 4
def TSt.joinN (t : TSt) (i : Int) (id : ByteArray) (th : Int) : List TriD := if t.lives i = true then (t.at i).joinN id th else []
def TSt.joined (t : TSt) (i : Int) (id : ByteArray) (th : Int) : TSt := if t.lives i = true then t.node i.toNat ((t.at i).joined id th) else t
theorem TSt.at_good {t : TSt} (h : TGood t) {i : Int} (hl : t.lives i = true) : NGood (t.at i) := by
  obtain ⟨k, rfl, hk, _⟩ := lives_true hl
  rw [TSt.at_is hk]
  exact h.good _ (List.getElem_mem hk)
theorem TGood.brought {t : TSt} (h : TGood t) (i z : Int) : TGood (t.brought i z) := by
  unfold TSt.brought
  split
  · next hc =>
    have hl : t.lives z = true := by simp at hc; exact hc.2
    exact h.node _ ((TSt.at_good h hl).heard _)
  · exact h
theorem TGood.lost {t : TSt} (h : TGood t) (i : Int) : TGood (t.lost i) := by
  unfold TSt.lost
  split
  · refine ⟨h.five, h.good, ?_⟩
    have := h.way
    simp only [cutW, List.length_append, List.length_take, List.length_drop]
    omega
  · exact h
theorem TGood.stopped {t : TSt} (h : TGood t) (i : Int) : TGood (t.stopped i) := by
  unfold TSt.stopped
  split
  · next hl =>
    refine ⟨by simpa using h.five, fun p hp => ?_, h.way⟩
    rcases List.mem_or_eq_of_mem_set hp with hp | rfl
    · exact h.good p hp
    · exact TSt.at_good h hl
  · exact h
theorem TGood.joined {t : TSt} (h : TGood t) (i : Int) (id : ByteArray) (th : Int) : TGood (t.joined i id th) := by
  unfold TSt.joined
  split
  · next hl => exact h.node _ ((TSt.at_good h hl).joined id th)
  · exact h
/-! ### the beginning -/
def chkIds : List ByteArray → List CfgD → Int
  | _, [] => 0
  | seen, c :: l => if cfgE c = 0 then (if seen.any (fun x => decide (x = c.1)) = true then 5 else chkIds (seen ++ [c.1]) l) else cfgE c
def newTE (l : List CfgD) : Int := if 5 < l.length then 2 else chkIds [] l
def watchAll (l : List CfgD) (s : NSt) : NSt := l.foldl (fun s c => s.watched c.1 (cfe c)) s
def TSt.start (l : List CfgD) : TSt := ⟨l.map fun c => (watchAll l (NSt.start c), false), []⟩
theorem NGood.watchAll {s : NSt} (h : NGood s) : ∀ l : List CfgD, NGood (watchAll l s)
  | [] => h
  | c :: l => NGood.watchAll (h.watched c.1 (cfe c)) l
end Go.Proofs.YthimchhnhhchkaaGreatDoor

namespace Go.Proofs.YthimchhnhhchkaaGreatDoor
open Go.RowKit Go.Lib
set_option linter.unusedSimpArgs false
set_option linter.unusedVariables false

def dkA : ByteArray := ⟨#[97]⟩
def dkB : ByteArray := ⟨#[98]⟩
def dk0 : TSt := TSt.start [(dkA, 0, 10, 4, 1), (dkB, 0, 10, 4, 1)]
def dk1 : TSt := dk0.joined 0 dkB 3
def dkLv (t : TSt) : Int := (t.at 0).lv dkB
def dkRound (t : TSt) (i : Nat) : TSt := (t.ticked 10).brought (2 * i + 1) 0
def dkAt : Nat → TSt
  | 0 => dk1
  | n + 1 => dkRound (dkAt n) n
theorem dk_start : newTE [(dkA, 0, 10, 4, 1)] = 0 ∧ newTE [(dkA, 0, 10, 4, 1), (dkB, 0, 10, 4, 1)] = 0 ∧ dk0.joinE 0 dkB 3 = 0 ∧ dk0.joinN 0 dkB 3 = [] := by decide +kernel
/-- the rounds -/
theorem dk_rounds : ∀ i : Fin 5, (dkAt i.val).tickE 10 = 0 ∧ (dkAt i.val).tickN 10 = [] ∧ ((dkAt i.val).ticked 10).bringE (2 * i.val + 1) 0 = 0 ∧ ((dkAt i.val).ticked 10).bringN (2 * i.val + 1) 0 = [] ∧ dkLv (dkAt (i.val + 1)) = 0 ∧ lvEr ((dkAt (i.val + 1)).at 0).D dkB = 0 ∧ (dkAt (i.val + 1)).lives 0 = true := by decide +kernel
/-- behind the rounds -/
def dkE1 (n : Nat) : TSt := (dkAt n).brought 1 0
def dkE2 (n : Nat) : TSt := (dkE1 n).brought 0 0
def dkE3 (n : Nat) : TSt := (dkE2 n).stopped 1
def dkE4 (n : Nat) : TSt := (dkE3 n).ticked 10
def dkE5 (n : Nat) : TSt := (dkE4 n).ticked 5
theorem dk_end : ∀ m : Fin 5, (dkAt (m.val + 1)).bringE 1 0 = 5 ∧ (dkE1 (m.val + 1)).bringE 0 0 = 4 ∧ (dkE2 (m.val + 1)).stopE 1 = 0 ∧ (dkE3 (m.val + 1)).tickE 10 = 0 ∧ (dkE3 (m.val + 1)).tickN 10 = [] ∧ (dkE4 (m.val + 1)).lives 0 = true ∧ dkLv (dkE4 (m.val + 1)) = 0 ∧ lvEr ((dkE4 (m.val + 1)).at 0).D dkB = 0 ∧
    (dkE4 (m.val + 1)).tickE 5 = 0 ∧ (dkE4 (m.val + 1)).tickN 5 = [(dkB, 3, true)] ∧ (dkE5 (m.val + 1)).way.length = 2 * (m.val + 1) + 1 ∧ (dkE5 (m.val + 1)).stopE 1 = 4 := by decide +kernel
end Go.Proofs.YthimchhnhhchkaaGreatDoor
