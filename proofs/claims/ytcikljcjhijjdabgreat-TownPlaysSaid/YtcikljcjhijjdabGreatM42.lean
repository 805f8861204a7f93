/- slices.Equal over subs and over strings, walked where both are the same; node.Subs. (with what it needs) -/
import Derived.Test.YtcikljcjhijjdabGreatM36
import Derived.Test.YtcikljcjhijjdabGreatM41
import Derived.Test.YtcikljcjhijjdabGreatM39
import Derived.Test.YtcikljcjhijjdabGreatM37
import Derived.Test.YtcikljcjhijjdabGreatM40
import Derived.Test.YtcikljcjhijjdabGreatM25
import Derived.Test.YtcikljcjhijjdabGreatM33
namespace Go.Proofs.YtcikljcjhijjdabGreat
open Go.RowKit Go.Lib
set_option linter.unusedSimpArgs false
set_option linter.unusedVariables false






































set_option maxHeartbeats 1000000 in
set_option maxRecDepth 100000 in
theorem eqt_same (A A' : Option Addr) (c c' B n : Nat) (l : List ByteArray) (hl : l.length = n) (hm : n ≤ 1000) (w : World) (hp : Reads w B 1 A n (cellsTx l)) (hp' : Reads w B 1 A' n (cellsTx l)) (hB : B ≤ w.heap.size) :
    Calls Tryz.prog 22 #[.slice A n c, .slice A' n c'] w fun e w' => e = .returned (.bool true) ∧ Below w.heap.size w w' := by
  have HP := Lib.hid hp
  have HP' := Lib.hid hp'
  have HN := Lib.hid hl
  have HBB := Lib.hid hB
  clear hp hp' hl hB
  go_enter Tryz.func22, Tryz.ntmps22
  go_wp2_with fail
  go_loopw [13] (fun iv wr => ∃ k : Nat, k ≤ n ∧ iv = .int .i64 (k : Int) ∧ Below w.heap.size w wr) (fun iv _ => n - (RowKit.intOf iv).toNat)
  case atStart => exact ⟨0, by omega, rfl, Below.refl _ _⟩
  case round =>
    obtain ⟨k, hk, rfl, hbl⟩ := hrel
    obtain ⟨wo, rfl⟩ : ∃ wo, wo = wr := ⟨_, rfl⟩
    have BL := Lib.hid hbl
    clear hbl
    by_cases hlt : k < n
    · have hkl : k < l.length := by rw [HN.out]; exact hlt
      obtain ⟨b, off, rfl, hb, hcs⟩ := (HP.out.below BL.out HBB.out).addr (by omega)
      obtain ⟨b', off', rfl, hb', hcs'⟩ := (HP'.out.below BL.out HBB.out).addr (by omega)
      have c0 := hcs k (.string (l[k]'hkl)) (by simp [cellsTx, hkl])
      have d0 := hcs' k (.string (l[k]'hkl)) (by simp [cellsTx, hkl])
      generalize l[k]'hkl = p at *
      have hb2 : b' < wo.heap.size := Nat.lt_of_lt_of_le hb' (Nat.le_trans HBB.out BL.out.size)
      have hb1 : b < wo.heap.size := Nat.lt_of_lt_of_le hb (Nat.le_trans HBB.out BL.out.size)
      clear hcs hcs'
      go_wp2_with fail
      go_region
      all_goals
        go_wp2
        exact ⟨⟨k + 1, by omega, by simp, by first | exact BL.out | exact BL.out.drew⟩, by simp [RowKit.intOf]; omega⟩
    · go_wp2
      go_ret
      exact ⟨rfl, BL.out⟩

/-- subs, copied -/
def NewSubs (S : List TriD) (w : World) (e : Ending) (w' : World) : Prop := ∃ A c, e = .returned (.slice A S.length c) ∧ w'.ownsRow w.heap.size 92 3 (.slice A S.length c) S.length (cells3 S) ∧ Below w.heap.size w w'
theorem sub_info2 : (Tryz.prog.info? 92).map (fun i => (i.zero, i.size, i.bytes)) = some (some (.agg #[.string ByteArray.empty, .int .i64 0, .bool false]), 3, 32) := by kernel_rfl







































end Go.Proofs.YtcikljcjhijjdabGreat

namespace Go.Proofs.YtcikljcjhijjdabGreat
open Go.RowKit Go.Lib
set_option linter.unusedSimpArgs false
set_option linter.unusedVariables false

def cfgV (c : CfgD) : Value := .agg #[.string c.1, .int .i64 (cfi c), .int .i64 (cfe c), .int .i64 (cfc c), .int .i64 (cfl c)]
def CfgBad (i e c l : Int) : Prop := i < 0 ∨ (0 ≤ i ∧ 2147483647 < i) ∨ (0 ≤ i ∧ i ≤ 2147483647 ∧ e < 1) ∨ (0 ≤ i ∧ i ≤ 2147483647 ∧ 1 ≤ e ∧ wi e 0 16777216 = false) ∨ (0 ≤ i ∧ i ≤ 2147483647 ∧ 1 ≤ e ∧ wi e 0 16777216 = true ∧ c < 1) ∨
  (0 ≤ i ∧ i ≤ 2147483647 ∧ 1 ≤ e ∧ wi e 0 16777216 = true ∧ 1 ≤ c ∧ 64 < c) ∨ (0 ≤ i ∧ i ≤ 2147483647 ∧ 1 ≤ e ∧ wi e 0 16777216 = true ∧ 1 ≤ c ∧ c ≤ 64 ∧ l < 1) ∨ (0 ≤ i ∧ i ≤ 2147483647 ∧ 1 ≤ e ∧ wi e 0 16777216 = true ∧ 1 ≤ c ∧ c ≤ 64 ∧ 1 ≤ l ∧ wi l 0 16777216 = false)
instance (c : CfgD) : Decidable (CfgIn c) := by unfold CfgIn; infer_instance
def cfgE (c : CfgD) : Int := if idB c.1 = true then (if CfgIn c then 0 else 1) else 3
theorem cfgE_zero {c : CfgD} (h : cfgE c = 0) : idB c.1 = true ∧ CfgIn c := by
  unfold cfgE at h
  split at h
  · rename_i h1
    split at h
    · rename_i h2; exact ⟨h1, h2⟩
    · cases h
  · cases h
theorem cfg_bad {c : CfgD} (h : ¬ CfgIn c) : CfgBad (cfi c) (cfe c) (cfc c) (cfl c) := by
  unfold CfgBad
  by_cases h1 : cfi c < 0
  · exact .inl h1
  by_cases h2 : 2147483647 < cfi c
  · exact .inr (.inl ⟨by omega, h2⟩)
  by_cases h3 : cfe c < 1
  · exact .inr (.inr (.inl ⟨by omega, by omega, h3⟩))
  cases h4 : wi (cfe c) 0 16777216
  · exact .inr (.inr (.inr (.inl ⟨by omega, by omega, by omega, rfl⟩)))
  by_cases h5 : cfc c < 1
  · exact .inr (.inr (.inr (.inr (.inl ⟨by omega, by omega, by omega, rfl, h5⟩))))
  by_cases h6 : 64 < cfc c
  · exact .inr (.inr (.inr (.inr (.inr (.inl ⟨by omega, by omega, by omega, rfl, by omega, h6⟩)))))
  by_cases h7 : cfl c < 1
  · exact .inr (.inr (.inr (.inr (.inr (.inr (.inl ⟨by omega, by omega, by omega, rfl, by omega, by omega, h7⟩))))))
  cases h8 : wi (cfl c) 0 16777216
  · exact .inr (.inr (.inr (.inr (.inr (.inr (.inr ⟨by omega, by omega, by omega, rfl, by omega, by omega, by omega, rfl⟩))))))
  · exfalso
    apply h
    have := wi_true.1 h4
    have := wi_true.1 h8
    unfold CfgIn
    omega

set_option maxHeartbeats 1000000 in
set_option maxRecDepth 100000 in
theorem cfg_id (c : CfgD) (hs : c.1.size ≤ maxLen) (hi : idB c.1 = false) (w : World) :
    Calls Tryz.prog 46 #[cfgV c] w fun e w' => e = .returned (.int .i64 3) ∧ Below w.heap.size w w' := by
  have E := Lib.hid ((Env.start w).lay #[.string c.1, .int .i64 (cfi c), .int .i64 (cfe c), .int .i64 (cfc c), .int .i64 (cfl c)] 30)
  have HI := Lib.hid hi
  unfold cfgV
  clear hi
  go_enter Tryz.func46, Tryz.ntmps46
  go_wp2_with fail
  refine (bid_any c.1 hs _).mono ?_
  rw [HI.out]
  rintro e' w' ⟨rfl, rfl⟩
  go_wp2
  go_ret
  exact ⟨rfl, E.out.bel⟩

set_option maxHeartbeats 2000000 in
set_option maxRecDepth 100000 in
theorem cfg_arg (c : CfgD) (hs : c.1.size ≤ maxLen) (hi : idB c.1 = true) (hbad : CfgBad (cfi c) (cfe c) (cfc c) (cfl c)) (w : World) :
    Calls Tryz.prog 46 #[cfgV c] w fun e w' => e = .returned (.int .i64 1) ∧ Below w.heap.size w w' := by
  have E := Lib.hid ((Env.start w).lay #[.string c.1, .int .i64 (cfi c), .int .i64 (cfe c), .int .i64 (cfc c), .int .i64 (cfl c)] 30)
  have HI := Lib.hid hi
  unfold cfgV
  clear hi
  obtain ⟨be, hbe⟩ : ∃ b, wi (cfe c) 0 16777216 = b := ⟨_, rfl⟩
  obtain ⟨bl, hbl⟩ : ∃ b, wi (cfl c) 0 16777216 = b := ⟨_, rfl⟩
  have HVE := Lib.hid hbe
  have HVL := Lib.hid hbl
  unfold CfgBad at hbad
  rw [hbe, hbl] at hbad
  clear hbe hbl
  generalize cfi c = vi at *
  generalize cfe c = ve at *
  generalize cfc c = vc at *
  generalize cfl c = vl at *
  rcases hbad with h | ⟨h1, h⟩ | ⟨h1, h2, h⟩ | ⟨h1, h2, h3, hv⟩ | ⟨h1, h2, h3, hv, h⟩ | ⟨h1, h2, h3, hv, h4, h⟩ | ⟨h1, h2, h3, hv, h4, h5, h⟩ | ⟨h1, h2, h3, hv, h4, h5, h6, hw⟩
  all_goals
    try subst hw
    try subst hv
    go_enter Tryz.func46, Tryz.ntmps46
    go_wp2_with fail
    refine (bid_any c.1 hs _).mono ?_
    rw [HI.out]
    rintro e' w' ⟨rfl, rfl⟩
    go_wp2_with (first
      | (go_at_call 72; (with_reducible refine (wval_is ve _ HVE.out _).mono ?_); rintro e' w' ⟨rfl, rfl⟩)
      | (go_at_call 72; (with_reducible refine (wval_is vl _ HVL.out _).mono ?_); rintro e' w' ⟨rfl, rfl⟩))
    all_goals first
      | (exfalso; omega)
      | (go_ret; exact ⟨rfl, E.out.bel⟩)

set_option maxHeartbeats 2000000 in
set_option maxRecDepth 100000 in
theorem cfg_ok (c : CfgD) (hi : idB c.1 = true) (hc : CfgIn c) (w : World) :
    Calls Tryz.prog 46 #[cfgV c] w fun e w' => e = .returned (.int .i64 0) ∧ Below w.heap.size w w' := by
  have E := Lib.hid ((Env.start w).lay #[.string c.1, .int .i64 (cfi c), .int .i64 (cfe c), .int .i64 (cfc c), .int .i64 (cfl c)] 30)
  have HI := Lib.hid hi
  have hs : c.1.size ≤ maxLen := by have := (idB_ne hi).2; unfold maxLen; omega
  unfold cfgV
  unfold CfgIn at hc
  clear hi
  have HVE := Lib.hid (show wi (cfe c) 0 16777216 = true from wi_true.2 ⟨by omega, by omega⟩)
  have HVL := Lib.hid (show wi (cfl c) 0 16777216 = true from wi_true.2 ⟨by omega, by omega⟩)
  obtain ⟨h1, h2, h3, h4, h5, h6, h7, h8⟩ := hc
  generalize cfi c = vi at *
  generalize cfe c = ve at *
  generalize cfc c = vc at *
  generalize cfl c = vl at *
  go_enter Tryz.func46, Tryz.ntmps46
  go_wp2_with fail
  refine (bid_any c.1 hs _).mono ?_
  rw [HI.out]
  rintro e' w' ⟨rfl, rfl⟩
  go_wp2_with (first
    | (go_at_call 72; (with_reducible refine (wval_is ve _ HVE.out _).mono ?_); rintro e' w' ⟨rfl, rfl⟩)
    | (go_at_call 72; (with_reducible refine (wval_is vl _ HVL.out _).mono ?_); rintro e' w' ⟨rfl, rfl⟩))
  all_goals first
    | (exfalso; omega)
    | (go_ret; exact ⟨rfl, E.out.bel⟩)
theorem cfg_any (c : CfgD) (hs : c.1.size ≤ maxLen) (w : World) :
    Calls Tryz.prog 46 #[cfgV c] w fun e w' => e = .returned (.int .i64 (cfgE c)) ∧ Below w.heap.size w w' := by
  unfold cfgE
  by_cases hi : idB c.1 = true
  · rw [if_pos hi]
    by_cases hc : CfgIn c
    · rw [if_pos hc]; exact cfg_ok c hi hc w
    · rw [if_neg hc]; exact cfg_arg c hs hi (cfg_bad hc) w
  · rw [if_neg hi]; exact cfg_id c hs (by simpa using hi) w
/-- a new node -/
def NSt.start (c : CfgD) : NSt := ⟨c, 0, 0, 0, [], []⟩
theorem NGood.start {c : CfgD} (h : cfgE c = 0) : NGood (NSt.start c) := by
  obtain ⟨h1, h2⟩ := cfgE_zero h
  exact ⟨h1, h2, Int.le_refl _, (show (0 : Int) ≤ 1073741824 by decide), by show (0 : Int) = 0 / cfe c; rw [Int.zero_ediv], Int.le_refl _, (show (0 : Int) ≤ 1073741824 by decide), ⟨by simp [NSt.start], by simp [NSt.start], by simp [NSt.start]⟩, by simp [NSt.start], by simp [NSt.start], by simp [NSt.start]⟩
theorem node_new {c : CfgD} {w : World} {b : Nat} (h : Blk w b 96 (nodeCs c 0 0 0 (.slice none 0 0) (.slice none 0 0))) : NodeAt (· = b) w b (NSt.start c) :=
  ⟨none, 0, 0, .slice none 0 0, [], h, ⟨rfl, Reads.none_, by simp⟩, rfl, ⟨Nat.le_refl _, Nat.zero_le _⟩, .inl ⟨rfl, rfl⟩, rfl, (fun g hg => by cases hg), ⟨fun h => by simp at h, by simp⟩, fun k hk => hk ▸ h.lt⟩

set_option maxHeartbeats 1000000 in
set_option maxRecDepth 100000 in
theorem new_no (c : CfgD) (hs : c.1.size ≤ maxLen) (e0 : Int) (he : cfgE c = e0) (hz : e0 ≠ 0) (w : World) :
    Calls Tryz.prog 25 #[cfgV c] w fun e w' => e = .returned (.tuple #[.pointer none, .int .i64 e0]) ∧ Below w.heap.size w w' := by
  have E := Lib.hid ((Env.start w).lay #[.string c.1, .int .i64 (cfi c), .int .i64 (cfe c), .int .i64 (cfc c), .int .i64 (cfl c)] 30)
  have HE := Lib.hid he
  have HC := Lib.hid (fun W => cfg_any c hs W)
  rw [HE.out] at HC
  unfold cfgV at HC ⊢
  clear he
  go_enter Tryz.func25, Tryz.ntmps25
  go_wp2_with fail
  refine (HC.out _).mono ?_
  rintro e' w1 ⟨rfl, hb1⟩
  have E1 := Lib.hid (E.out.below hb1)
  clear hb1
  go_wp2
  all_goals first
    | (exfalso; omega)
    | exact bodyPost_ret (v := .tuple #[.pointer none, .int .i64 e0]) (by simp [results, Tryz.results25, go_sem]) rfl ⟨rfl, E1.out.bel⟩
/-- the answer of New that goes -/
def NewIs (c : CfgD) (w : World) (e : Ending) (w' : World) : Prop := ∃ b, e = .returned (.tuple #[.pointer (some ⟨b, 0, none⟩), .int .i64 0]) ∧ w.heap.size ≤ b ∧ NodeAt (· = b) w' b (NSt.start c) ∧ Below w.heap.size w w'

set_option maxHeartbeats 1000000 in
set_option maxRecDepth 100000 in
theorem new_ok (c : CfgD) (he : cfgE c = 0) (w : World) :
    Calls Tryz.prog 25 #[cfgV c] w (NewIs c w) := by
  have hs : c.1.size ≤ maxLen := by have := (idB_ne (cfgE_zero he).1).2; unfold maxLen; omega
  have E := Lib.hid ((Env.start w).lay #[.string c.1, .int .i64 (cfi c), .int .i64 (cfe c), .int .i64 (cfc c), .int .i64 (cfl c)] 30)
  have HE := Lib.hid he
  have HC := Lib.hid (fun W => cfg_any c hs W)
  rw [HE.out] at HC
  unfold cfgV at HC ⊢
  clear he
  go_enter Tryz.func25, Tryz.ntmps25
  go_wp2_with fail
  refine (HC.out _).mono ?_
  rintro e' w1 ⟨rfl, hb1⟩
  have E1 := Lib.hid (E.out.below hb1)
  clear hb1
  have x0 := E1.out.hd.cell 0
  have x1 := E1.out.hd.cell 1
  have x2 := E1.out.hd.cell 2
  have x3 := E1.out.hd.cell 3
  have x4 := E1.out.hd.cell 4
  simp at x0 x1 x2 x3 x4
  have hs1 := E1.out.bel.size
  have E2 := Lib.hid (E1.out.lay (nodeCs c 0 0 0 (.slice none 0 0) (.slice none 0 0)) 96)
  simp only [nodeCs] at E2
  go_wp2
  exact bodyPost_ret (v := .tuple #[.pointer (some ⟨w1.heap.size, 0, none⟩), .int .i64 0]) (by simp [results, Tryz.results25, go_sem]) rfl ⟨_, rfl, hs1, node_new E2.out.hd, E2.out.bel⟩

section
variable {X : Nat → Prop} {w : World} {b pn pc : Nat} {A : Option Addr} {sv : Value} {l : List PeerT} {s : NSt}
set_option maxHeartbeats 400000 in
set_option maxRecDepth 100000 in
theorem now_any (h : NodeIs X w b A pn pc sv l s) :
    Calls Tryz.prog 29 #[.pointer (some ⟨b, 0, none⟩)] w fun e w' => e = .returned (.int .i64 s.now) ∧ w = w' := by
  have hbl := h.blk.lt
  have b5 := h.blk.cell 5
  simp [nodeCs] at b5
  clear h
  go_enter Tryz.func29, Tryz.ntmps29
  go_wp2
  go_ret
  exact ⟨rfl, rfl⟩



















/-- the answer of Tick, whatever -/
def TkIs (X : Nat → Prop) (b : Nat) (s : NSt) (ticks : Int) (w : World) (e : Ending) (w' : World) : Prop :=
  if s.tickE ticks = 0 then (∃ A pn pc sv l, TickIs X b A pn pc sv l s ticks w e w') else e = .returned (.tuple #[.slice none 0 0, .slice none 0 0, .int .i64 (s.tickE ticks)]) ∧ w = w'
theorem tick_any (h : NodeIs X w b A pn pc sv l s) (hg : NGood s) (ticks : Int) :
    Calls Tryz.prog 30 #[.pointer (some ⟨b, 0, none⟩), .int .i64 ticks] w (TkIs X b s ticks w) := by
  unfold TkIs
  by_cases hz : s.tickE ticks = 0
  · refine (tick_ok h hg ticks hz).mono fun e w' hh => ?_
    rw [if_pos hz]; exact ⟨_, _, _, _, _, hh⟩
  · have hz2 := hz
    unfold NSt.tickE at hz2 ⊢
    by_cases h1 : ticks < 1 ∨ 1073741824 < ticks
    · refine (tick_arg b s ticks h1 w).mono fun e w' hh => ?_
      rw [if_pos h1, if_neg (by decide)]; exact hh
    · rw [if_neg h1] at hz2
      by_cases h2 : 1073741824 < s.now + ticks ∨ 64 ≤ ticks / cfe s.c
      · refine (tick_large b s hg.cfg _ _ ticks (by omega) (by omega) hg.now0 hg.now1 h2 w h.blk).mono fun e w' hh => ?_
        rw [if_neg h1, if_pos h2, if_neg (by decide)]; exact hh
      · rw [if_neg h2] at hz2; exact absurd rfl hz2
end
end Go.Proofs.YtcikljcjhijjdabGreat

namespace Go.Proofs.YtcikljcjhijjdabGreat
open Go.RowKit Go.Lib
set_option linter.unusedSimpArgs false
set_option linter.unusedVariables false

theorem rpadd_any (A : Option Addr) (c B n : Nat) (l : List PeerT) (D : List PeerD) (hm : l.map Prod.fst = D) (ho : PsOk D) (hnc : n ≤ c ∧ c ≤ maxLen) (id : ByteArray) (hid : id.size ≤ maxLen) (size first now : Int) (w : World) (hp : Peers w B A n l) (hB : B ≤ w.heap.size) :
    Calls Tryz.prog 49 #[.slice A n c, .string id, .int .i64 size, .int .i64 first, .int .i64 now] w (PAddIs A l D id size first now w) := by
  have hn : D.length = n := by rw [← hm, List.length_map]; exact hp.len
  have hmm : n ≤ maxLen := Nat.le_trans hnc.1 hnc.2
  have he : peersE l = 0 := by rw [peersE_map, hm]; exact ho.zero
  obtain ⟨h6', hgood, hasc⟩ := peersE_zero he
  unfold PAddIs addE
  by_cases hi : idB id = false
  · rw [if_pos hi]; exact radd_id A c B n l hmm id size first now w hp hB hi
  rw [if_neg hi]
  have hi : idB id = true := by simpa using hi
  by_cases hbad : ArgBad size first now
  · rw [if_pos hbad]; exact radd_arg A c B n l hmm id size first now w hp hB hi hbad
  rw [if_neg hbad]
  obtain ⟨s0, s1, hfv, n0, n1⟩ := arg_ok hbad
  cases hx : idxOf D id with
  | some k =>
    obtain ⟨hk, h1, h2⟩ := idx_some hx
    rw [if_pos (show (some k).isSome = true from rfl)]
    have hkl : k < l.length := by rw [hp.len]; omega
    have hpk : pid (l[k]'hkl) = id := by subst hm; simpa using h1
    have hfi := rfind_some A c B n l k hkl (fun j hj hjk => asc_ne hasc hj hkl hjk) hmm
    rw [hpk] at hfi
    exact radd_there A c B n l hmm id size first now w hp hB hi s0 s1 hfv n0 n1 (by have := ho.six; omega) k hkl hfi
  | none =>
    rw [if_neg (by simp)]
    by_cases h6 : D.length = 6
    · rw [if_pos h6]
      exact radd_full A c B n l hmm id size first now w hp hB hi s0 s1 hfv n0 n1 (by omega) (rfind_none A c B n l id (idxl hm hx) hmm)
    · rw [if_neg h6]
      obtain ⟨f1, f2, f3, f4⟩ := ins_find (A := A) (c := c) hm ho hp.len hx
      have := radd_ok A c B n l hmm id size first now w hp hB hi s0 s1 hfv n0 n1 (by have := ho.six; omega) hnc.1 hnc.2 (rfind_none A c B n l id (idxl hm hx) hmm) (insAt D id) f1 f2 f3
      rw [hm] at this
      rw [hn]
      refine this.mono fun x w' h => ?_
      rw [if_pos rfl]
      exact h
/-- the answer of Watch -/
def RWtIs (X : Nat → Prop) (b : Nat) (s' : NSt) (er : Int) (w : World) (e : Ending) (w' : World) : Prop := e = .returned (.int .i64 er) ∧ RNodeAt (grow X w w') w' b s' ∧ Kept X w w'
section
variable {X : Nat → Prop} {w : World} {b pn pc : Nat} {A : Option Addr} {sv : Value} {l : List PeerT} {s : NSt}
set_option maxHeartbeats 1000000 in
set_option maxRecDepth 100000 in
theorem rwatch_own (h : RNodeIs X w b A pn pc sv l s) (ev : Int) :
    Calls Tryz.prog 28 #[.pointer (some ⟨b, 0, none⟩), .string s.c.1, .int .i64 ev] w (RWtIs X b s 5 w) := by
  have HH := Lib.hid h
  have hbl := h.blk.lt
  have b0 := h.blk.cell 0
  simp [rnodeCs] at b0
  clear h
  go_enter Tryz.func28, Tryz.ntmps28
  go_wp2
  go_ret
  exact ⟨rfl, HoldIs.at_ (HoldIs.grow HH.out), Kept.refl _ _⟩

set_option maxHeartbeats 1000000 in
set_option maxRecDepth 100000 in
theorem rwatch_no (h : RNodeIs X w b A pn pc sv l s) (hg : NGood s) (id : ByteArray) (hid : id.size ≤ maxLen) (ev : Int) (hne : id ≠ s.c.1) (er : Int) (he : addE s.D id (cfc s.c) ev s.now = er) (hz : er ≠ 0) :
    Calls Tryz.prog 28 #[.pointer (some ⟨b, 0, none⟩), .string id, .int .i64 ev] w (RWtIs X b s er w) := by
  have HH := Lib.hid h
  have HE := Lib.hid he
  have hbl := h.blk.lt
  have b0 := h.blk.cell 0
  simp [rnodeCs] at b0
  have heq : (id.toList == s.c.1.toList) = false := eqB_no hne
  have HP := Lib.hid (show ∀ W, Below w.heap.size w W → Calls Tryz.prog 49 #[.slice A pn pc, .string id, .int .i64 (cfc s.c), .int .i64 ev, .int .i64 s.now] W (AddNo er W) from fun W hw =>
    (rpadd_any A pc w.heap.size pn l s.D h.map hg.ps h.room id hid (cfc s.c) ev s.now W (h.peers.below hw (Nat.le_refl _)) hw.size).mono fun x w' h => by unfold PAddIs at h; rw [HE.out, if_neg hz] at h; exact h)
  have HS := Lib.hid (show ∀ w', Below w.heap.size w w' → (Below w.heap.size w w' ∧ w'.cell? ⟨b, 7, none⟩ = some (.slice A pn pc) ∧ w'.cell? ⟨b, 3, none⟩ = some (.int .i64 (cfc s.c)) ∧ w'.cell? ⟨b, 5, none⟩ = some (.int .i64 s.now))
    from fun w' h => ⟨h, (HH.out.blk.below h hbl).cell 7, (HH.out.blk.below h hbl).cell 3, (HH.out.blk.below h hbl).cell 5⟩)
  clear h hg hne he
  go_enter Tryz.func28, Tryz.ntmps28
  go_upto_region 17 with fail
  clear b0 heq
  go_region_held3 (fun w' => Below w.heap.size w w' ∧ w'.cell? ⟨b, 7, none⟩ = some (.slice A pn pc) ∧ w'.cell? ⟨b, 3, none⟩ = some (.int .i64 (cfc s.c)) ∧ w'.cell? ⟨b, 5, none⟩ = some (.int .i64 s.now))
    ((refine HS.out _ ?_; repeat (first | (with_reducible exact hL3) | (with_reducible exact Below.refl _ _) | (with_reducible refine Below.al5 ?_) | (with_reducible refine Below.drew ?_))))
    ((go_at_call 49; (with_reducible refine (HP.out _ ?ia).mono ?_); (case ia => repeat (first | (with_reducible exact Below.refl _ _) | (with_reducible refine Below.al5 ?_) | (with_reducible refine Below.drew ?_))); rintro e' w3 ⟨rfl, hb3⟩; have hL3 : Below w.heap.size w w3 := Below.thru5 (by repeat (first | (with_reducible exact Below.refl _ _) | (with_reducible refine Below.al5 ?_) | (with_reducible refine Below.drew ?_))) hb3))
  all_goals
    have E3 := Lib.hid hL3
    clear hL3 hb3
    go_wp2
    all_goals first
      | (exfalso; omega)
      | (go_ret; exact ⟨rfl, HoldIs.at_ (HoldIs.grow (HoldIs.below HH.out E3.out)), .of_below E3.out⟩)

set_option maxHeartbeats 1000000 in
set_option maxRecDepth 100000 in
theorem rwatch_ok (h : RNodeIs X w b A pn pc sv l s) (hg : NGood s) (id : ByteArray) (hid : id.size ≤ maxLen) (ev : Int) (hne : id ≠ s.c.1) (er : Int) (he : addE s.D id (cfc s.c) ev s.now = er) (hz : er = 0) :
    Calls Tryz.prog 28 #[.pointer (some ⟨b, 0, none⟩), .string id, .int .i64 ev] w (RWtIs X b { s with D := addD s.D id (cfc s.c) ev s.now } 0 w) := by
  have HH := Lib.hid h
  have HE := Lib.hid he
  have hbl := h.blk.lt
  have b0 := h.blk.cell 0
  simp [rnodeCs] at b0
  have heq : (id.toList == s.c.1.toList) = false := eqB_no hne
  have HP := Lib.hid (show ∀ W, Below w.heap.size w W → Calls Tryz.prog 49 #[.slice A pn pc, .string id, .int .i64 (cfc s.c), .int .i64 ev, .int .i64 s.now] W (AddIs A l (addD s.D id (cfc s.c) ev s.now) (s.D.length + 1) W) from fun W hw =>
    (rpadd_any A pc w.heap.size pn l s.D h.map hg.ps h.room id hid (cfc s.c) ev s.now W (h.peers.below hw (Nat.le_refl _)) hw.size).mono fun x w' h => by unfold PAddIs at h; rw [HE.out, if_pos hz] at h; exact h)
  have HS := Lib.hid (show ∀ w', Below w.heap.size w w' → (Below w.heap.size w w' ∧ w'.cell? ⟨b, 7, none⟩ = some (.slice A pn pc) ∧ w'.cell? ⟨b, 3, none⟩ = some (.int .i64 (cfc s.c)) ∧ w'.cell? ⟨b, 5, none⟩ = some (.int .i64 s.now))
    from fun w' h => ⟨h, (HH.out.blk.below h hbl).cell 7, (HH.out.blk.below h hbl).cell 3, (HH.out.blk.below h hbl).cell 5⟩)
  clear h hg hne he
  go_enter Tryz.func28, Tryz.ntmps28
  go_upto_region 17 with fail
  clear b0 heq
  go_region_held3 (fun w' => Below w.heap.size w w' ∧ w'.cell? ⟨b, 7, none⟩ = some (.slice A pn pc) ∧ w'.cell? ⟨b, 3, none⟩ = some (.int .i64 (cfc s.c)) ∧ w'.cell? ⟨b, 5, none⟩ = some (.int .i64 s.now))
    ((refine HS.out _ ?_; repeat (first | (with_reducible exact hL3) | (with_reducible exact Below.refl _ _) | (with_reducible refine Below.al5 ?_) | (with_reducible refine Below.drew ?_))))
    ((go_at_call 49; (with_reducible refine (HP.out _ ?ia).mono ?_); (case ia => repeat (first | (with_reducible exact Below.refl _ _) | (with_reducible refine Below.al5 ?_) | (with_reducible refine Below.drew ?_))); rintro e' w3 ⟨A3, c3, l3, rfl, hm3, hp3, hb3, hr3, hk3⟩; have hL3 : Below w.heap.size w w3 := Below.thru5 (by repeat (first | (with_reducible exact Below.refl _ _) | (with_reducible refine Below.al5 ?_) | (with_reducible refine Below.drew ?_))) hb3))
  all_goals
    have E3 := Lib.hid hL3
    have hbl3 : b < w3.heap.size := by have := hL3.size; omega
    have N3 := Lib.hid (HoldIs.below HH.out hL3)
    have HK3 := Lib.hid (keeps_fr (w := w) hk3 (by first | exact Nat.le_refl _ | (simp)))
    have NT := Lib.hid (HoldIs.turn (mk' := rnodeCs s.c s.now s.drops) (i := 7) HH.out E3.out hp3 hm3 hr3 HK3.out rfl)
    have KT := Lib.hid ((Kept.of_below (X := X) E3.out).setCell (a := ⟨b, 7, none⟩) (.inl HH.out.xb) (.slice A3 (s.D.length + 1) c3))
    have f8 := N3.out.blk.frozen 7
    clear hL3 hb3 hm3 hp3 hr3 hk3
    go_wp2
    all_goals first
      | (exfalso; omega)
      | (go_ret; exact ⟨rfl, HoldAt.wide (HoldIs.at_ NT.out) (grow_of' (by simp [World.setCell])) (fun k hk => hk.2), KT.out⟩)
theorem rwatch_any (h : RNodeIs X w b A pn pc sv l s) (hg : NGood s) (id : ByteArray) (hid : id.size ≤ maxLen) (ev : Int) :
    Calls Tryz.prog 28 #[.pointer (some ⟨b, 0, none⟩), .string id, .int .i64 ev] w (RWtIs X b (s.watched id ev) (s.watchE id ev) w) := by
  unfold NSt.watched NSt.watchE
  by_cases hi : id = s.c.1
  · rw [if_pos hi, if_neg (by decide)]
    subst hi
    exact rwatch_own h ev
  · rw [if_neg hi]
    by_cases hz : addE s.D id (cfc s.c) ev s.now = 0
    · rw [if_pos hz, hz]; exact rwatch_ok h hg id hid ev hi _ rfl hz
    · rw [if_neg hz]; exact rwatch_no h hg id hid ev hi _ rfl hz
end
end Go.Proofs.YtcikljcjhijjdabGreat

namespace Go.Proofs.YtcikljcjhijjdabGreat
open Go.RowKit Go.Lib
set_option linter.unusedSimpArgs false
set_option linter.unusedVariables false

theorem rdec_any (s : ByteArray) (w : World) : Calls Tryz.prog 55 #[.string s] w (DecIs (decR s).1 (decR s).2.1 (decR s).2.2.1 (decR s).2.2.2 w) := by
  unfold decR
  by_cases h1 : s.size < 2
  · rw [if_pos h1]; exact rdec_short s h1 w
  rw [if_neg h1, byteAt_get s 0 (by omega), byteAt_get s 1 (by omega)]
  by_cases h2 : (s[0]).toNat ≠ 72
  · rw [if_pos h2]; exact rdec_h s (by omega) h2 w
  rw [if_neg h2]
  have h2 : (s[0]).toNat = 72 := Classical.not_not.1 h2
  by_cases h3 : (s[1]).toNat = 0
  · rw [if_pos (.inl h3)]; exact rdec_k0 s (by omega) h2 h3 w
  by_cases h3' : 8 < (s[1]).toNat
  · rw [if_pos (.inr h3')]; exact rdec_k9 s _ (by omega) h2 rfl h3' w
  rw [if_neg (by omega)]
  by_cases h4 : s.size < 14 + (s[1]).toNat
  · rw [if_pos h4]; exact rdec_less s _ (by omega) h2 rfl (by omega) (by omega) h4 w
  rw [if_neg h4]
  by_cases h5 : 14 + (s[1]).toNat < s.size
  · rw [if_pos h5]; exact rdec_more s _ (by omega) h2 rfl (by omega) (by omega) h5 w
  rw [if_neg h5]
  by_cases h6 : crcV (s.extract 0 (10 + (s[1]).toNat)) ≠ num4 s (10 + (s[1]).toNat)
  · rw [if_pos h6]; exact rdec_sum s _ (by omega) h2 rfl (by omega) (by omega) (by omega) h6 w
  rw [if_neg h6]
  have h6 := Classical.not_not.1 h6
  by_cases h7 : beatE (s.extract 2 (2 + (s[1]).toNat)) (num4 s (2 + (s[1]).toNat)) (num4 s (6 + (s[1]).toNat)) ≠ 0
  · rw [if_pos h7]; exact rdec_bad s _ (by omega) h2 rfl (by omega) (by omega) (by omega) h6 _ rfl h7 w
  rw [if_neg h7]
  exact rdec_good s _ (by omega) h2 rfl (by omega) (by omega) (by omega) h6 (Classical.not_not.1 h7) w
/-- the answer of Hear -/
def RHrIs (X : Nat → Prop) (b : Nat) (s' : NSt) (N : List TriD) (er : Int) (w : World) (e : Ending) (w' : World) : Prop :=
  ∃ A c, e = .returned (.tuple #[.slice A N.length c, .int .i64 er]) ∧ w'.ownsRow w.heap.size 55 3 (.slice A N.length c) N.length (cells3 N) ∧ RNodeAt (grow X w w') w' b s' ∧ Kept X w w'
theorem RHrIs.no {X : Nat → Prop} {b : Nat} {s' : NSt} {er : Int} {w w' : World} (h : RNodeAt (grow X w w') w' b s') (hk : Kept X w w') : RHrIs X b s' [] er w (.returned (.tuple #[.slice none 0 0, .int .i64 er])) w' :=
  ⟨none, 0, rfl, World.ownsRow_nil _ _ _ _, h, hk⟩

section
variable {X : Nat → Prop} {w : World} {b pn pc : Nat} {A : Option Addr} {sv : Value} {l : List PeerT} {s : NSt}
set_option maxHeartbeats 1000000 in
set_option maxRecDepth 100000 in
theorem rhr_dec (h : RNodeIs X w b A pn pc sv l s) (hg : NGood s) (x : ByteArray) {id : ByteArray} {i q er : Int} (he : decR x = (id, i, q, er)) (hz : er ≠ 0) :
    Calls Tryz.prog 36 #[.pointer (some ⟨b, 0, none⟩), .string x] w (RHrIs X b s.drop [] er w) := by
  have HH := Lib.hid h
  have HG := Lib.hid hg
  have HX := Lib.hid h.xlt
  have hbl := h.blk.lt
  have hd0 := hg.drops0
  have hd1 := hg.drops1
  have hn0 := hg.now0
  have hn1 := hg.now1
  have HE := Lib.hid he
  have HD := Lib.hid (fun W => rdec_any x W)
  simp only [he] at HD
  clear h hg he
  go_enter Tryz.func36, Tryz.ntmps36
  go_wp2_with fail
  refine (HD.out _).mono ?_
  rintro e' w1 ⟨rfl, hb1⟩
  have N1 := Lib.hid (HoldIs.below HH.out hb1)
  have B1 := Lib.hid hb1
  have hs1 := hb1.size
  clear hb1
  have E1 := Lib.hid (B1.out.alloc hs1 (.cells #[.string id, .int .i64 i, .int .i64 q] 103))
  have N2 := Lib.hid (HoldIs.below HH.out E1.out)
  have hbl2 := N2.out.blk.lt
  have b7 := N2.out.blk.cell 6
  have f7 := N2.out.blk.frozen 6
  simp [rnodeCs] at b7 f7
  have NS := Lib.hid (HoldIs.set (mk' := rnodeCs s.c s.now (min (s.drops + 1) 1073741824)) N2.out 6 (.int .i64 (min 1073741824 (s.drops + 1))) (by rw [Int.min_comm 1073741824 (s.drops + 1)]; rfl))
  have KS := Lib.hid ((Kept.of_below (X := X) E1.out).setCell (a := ⟨b, 6, none⟩) (.inl HH.out.xb) (.int .i64 (min 1073741824 (s.drops + 1))))
  clear N1 B1
  go_wp2
  all_goals first
    | (exfalso; omega)
    | (refine bodyPost_ret (v := .tuple #[.slice none 0 0, .int .i64 er]) (by simp [results, Tryz.results36, go_sem]) rfl ?_; exact .no (HoldIs.at_ (HoldIs.grow NS.out)) KS.out)

set_option maxHeartbeats 1000000 in
set_option maxRecDepth 100000 in
theorem rhr_none (h : RNodeIs X w b A pn pc sv l s) (hg : NGood s) (x : ByteArray) {id : ByteArray} {i q : Int} (he : decR x = (id, i, q, 0)) (hb : beatE id i q = 0) (hno : idxOf s.D id = none) :
    Calls Tryz.prog 36 #[.pointer (some ⟨b, 0, none⟩), .string x] w (RHrIs X b s.drop [] 4 w) := by
  have HH := Lib.hid h
  have HG := Lib.hid hg
  have HX := Lib.hid h.xlt
  have hbl := h.blk.lt
  have hd0 := hg.drops0
  have hd1 := hg.drops1
  have hn0 := hg.now0
  have hn1 := hg.now1
  have HB := Lib.hid hb
  have hmm : pn ≤ maxLen := Nat.le_trans h.room.1 h.room.2
  have he0 : peersE l = 0 := by rw [peersE_map, h.map]; exact hg.ps.zero
  have HD := Lib.hid (fun W => rdec_any x W)
  simp only [he] at HD
  have HP0 := Lib.hid (show ∀ W, Below w.heap.size w W → Calls Tryz.prog 56 #[.slice A pn pc, .agg #[.string id, .int .i64 i, .int .i64 q], .int .i64 s.now] W (HearNo 4 W) from fun W hw => rhear_none A pc w.heap.size pn l hmm id i q s.now W (h.peers.below hw (Nat.le_refl _)) hw.size hb hn0 hn1 (idx_none_l h.map hno))
  clear h hg he hb he0 hno
  go_enter Tryz.func36, Tryz.ntmps36
  go_wp2_with fail
  refine (HD.out _).mono ?_
  rintro e' w1 ⟨rfl, hb1⟩
  have N1 := Lib.hid (HoldIs.below HH.out hb1)
  have B1 := Lib.hid hb1
  have hs1 := hb1.size
  clear hb1
  have hid8 : id.size ≤ 8 := (beatE_zero HB.out).1
  have E1 := Lib.hid ((Env.start w1).lay #[.string id, .int .i64 i, .int .i64 q] 103)
  have N2 := Lib.hid (HoldIs.below N1.out E1.out.bel)
  have BW := Lib.hid (B1.out.trans (E1.out.bel.mono hs1))
  go_upto_region 18 with fail
  generalize hW2 : World.alloc w1 _ = w2 at *
  have hs12 : w2.heap.size = w1.heap.size + 1 := by rw [← hW2]; simp
  clear hW2
  have hbl2 := N2.out.blk.lt
  have HS := Lib.hid (show ∀ w', Below w2.heap.size w2 w' → (Below w2.heap.size w2 w' ∧ w'.cell? ⟨b, 7, none⟩ = some (.slice A pn pc) ∧ w'.cell? ⟨b, 5, none⟩ = some (.int .i64 s.now) ∧ w'.cell? ⟨w1.heap.size, 0, none⟩ = some (.string id) ∧ w'.cell? ⟨w1.heap.size, 1, none⟩ = some (.int .i64 i) ∧ w'.cell? ⟨w1.heap.size, 2, none⟩ = some (.int .i64 q))
    from fun w' h => ⟨h, (N2.out.blk.below h hbl2).cell 7, (N2.out.blk.below h hbl2).cell 5, (E1.out.below h).hd.cell 0, (E1.out.below h).hd.cell 1, (E1.out.below h).hd.cell 2⟩)
  have HP := Lib.hid (fun W (hw : Below w2.heap.size w2 W) => HP0.out W (BW.out.trans (hw.mono (by omega))))
  go_region_held3 (fun w' => Below w2.heap.size w2 w' ∧ w'.cell? ⟨b, 7, none⟩ = some (.slice A pn pc) ∧ w'.cell? ⟨b, 5, none⟩ = some (.int .i64 s.now) ∧ w'.cell? ⟨w1.heap.size, 0, none⟩ = some (.string id) ∧ w'.cell? ⟨w1.heap.size, 1, none⟩ = some (.int .i64 i) ∧ w'.cell? ⟨w1.heap.size, 2, none⟩ = some (.int .i64 q))
    ((refine HS.out _ ?_; repeat (first | (with_reducible exact hL3) | (with_reducible exact Below.refl _ _) | (with_reducible refine Below.al5 ?_) | (with_reducible refine Below.drew ?_))))
    ((go_at_call 56; (with_reducible refine (HP.out _ ?ia).mono ?_); (case ia => repeat (first | (with_reducible exact Below.refl _ _) | (with_reducible refine Below.al5 ?_) | (with_reducible refine Below.drew ?_))); rintro e' w3 ⟨rfl, hb3⟩; have hL3 : Below w2.heap.size w2 w3 := Below.thru5 (by repeat (first | (with_reducible exact Below.refl _ _) | (with_reducible refine Below.al5 ?_) | (with_reducible refine Below.drew ?_))) hb3))
  all_goals
    have E3 := Lib.hid (BW.out.trans (hL3.mono (by omega)))
    have N3 := Lib.hid (HoldIs.below HH.out E3.out)
    have hbl3 := N3.out.blk.lt
    have b7 := N3.out.blk.cell 6
    have f7 := N3.out.blk.frozen 6
    simp [rnodeCs] at b7 f7
    have NS := Lib.hid (HoldIs.set (mk' := rnodeCs s.c s.now (min (s.drops + 1) 1073741824)) N3.out 6 (.int .i64 (min 1073741824 (s.drops + 1))) (by rw [Int.min_comm 1073741824 (s.drops + 1)]; rfl))
    have KS := Lib.hid ((Kept.of_below (X := X) E3.out).setCell (a := ⟨b, 6, none⟩) (.inl HH.out.xb) (.int .i64 (min 1073741824 (s.drops + 1))))
    clear hL3 hb3
    go_wp2
    refine bodyPost_ret (v := .tuple #[.slice none 0 0, .int .i64 4]) (by simp [results, Tryz.results36, go_sem]) rfl ?_
    exact .no (HoldIs.at_ (HoldIs.grow NS.out)) KS.out

set_option maxHeartbeats 1000000 in
set_option maxRecDepth 100000 in
theorem rhr_old (h : RNodeIs X w b A pn pc sv l s) (hg : NGood s) (x : ByteArray) {id : ByteArray} {i q : Int} (he : decR x = (id, i, q, 0)) (hb : beatE id i q = 0) (k : Nat) (hk : k < s.D.length) (hkid : (s.D[k]'hk).1 = id) (hnw : ¬ Newer (s.D[k]'hk).2.1.1 (s.D[k]'hk).2.1.2.1 i q) :
    Calls Tryz.prog 36 #[.pointer (some ⟨b, 0, none⟩), .string x] w (RHrIs X b { s with D := heardO s.D k, drops := min (s.drops + 1) 1073741824 } [] 5 w) := by
  have HH := Lib.hid h
  have HG := Lib.hid hg
  have HX := Lib.hid h.xlt
  have hbl := h.blk.lt
  have hd0 := hg.drops0
  have hd1 := hg.drops1
  have hn0 := hg.now0
  have hn1 := hg.now1
  have HB := Lib.hid hb
  have hmm : pn ≤ maxLen := Nat.le_trans h.room.1 h.room.2
  have he0 : peersE l = 0 := by rw [peersE_map, h.map]; exact hg.ps.zero
  have HD := Lib.hid (fun W => rdec_any x W)
  simp only [he] at HD
  have hkl : k < l.length := by have e := congrArg List.length h.map; rw [List.length_map] at e; omega
  have hD : s.D[k]'hk = (l[k]'hkl).1 := by simp only [← h.map, List.getElem_map]
  have hdl : (s.D[k]'hk).2.2.2.2 ≤ s.now := (hg.pv _ (List.getElem_mem hk)).2
  have hpd : pid (l[k]'hkl) = id := by rw [← hkid, hD]
  have HP0 := Lib.hid (show ∀ W, Below w.heap.size w W → Calls Tryz.prog 56 #[.slice A pn pc, .agg #[.string id, .int .i64 i, .int .i64 q], .int .i64 s.now] W (HearIs A l (heardO s.D k) pn false W) from fun W hw => by have hh := rhear_old A pc w.heap.size pn l hmm id i q s.now W (h.peers.below hw (Nat.le_refl _)) hw.size hb hn0 hn1 (peersE_zero he0).2.1 (peersE_zero he0).2.2 (by rw [← h.peers.len]; exact (peersE_zero he0).1) k hkl hpd (by show (l[k]'hkl).1.2.2.2.2 ≤ s.now; rw [← hD]; exact hdl) (by show ¬ Newer (l[k]'hkl).1.2.1.1 (l[k]'hkl).1.2.1.2.1 i q; rw [← hD]; exact hnw); rw [h.map] at hh; simp only [pgd] at hh; rw [← hD] at hh; unfold heardO; rw [List.getElem?_eq_getElem hk]; exact hh)
  clear h hg he hb he0 hkid hnw hD hdl hpd
  go_enter Tryz.func36, Tryz.ntmps36
  go_wp2_with fail
  refine (HD.out _).mono ?_
  rintro e' w1 ⟨rfl, hb1⟩
  have N1 := Lib.hid (HoldIs.below HH.out hb1)
  have B1 := Lib.hid hb1
  have hs1 := hb1.size
  clear hb1
  have hid8 : id.size ≤ 8 := (beatE_zero HB.out).1
  have E1 := Lib.hid ((Env.start w1).lay #[.string id, .int .i64 i, .int .i64 q] 103)
  have N2 := Lib.hid (HoldIs.below N1.out E1.out.bel)
  have BW := Lib.hid (B1.out.trans (E1.out.bel.mono hs1))
  go_upto_region 18 with fail
  generalize hW2 : World.alloc w1 _ = w2 at *
  have hs12 : w2.heap.size = w1.heap.size + 1 := by rw [← hW2]; simp
  clear hW2
  have hbl2 := N2.out.blk.lt
  have HS := Lib.hid (show ∀ w', Below w2.heap.size w2 w' → (Below w2.heap.size w2 w' ∧ w'.cell? ⟨b, 7, none⟩ = some (.slice A pn pc) ∧ w'.cell? ⟨b, 5, none⟩ = some (.int .i64 s.now) ∧ w'.cell? ⟨w1.heap.size, 0, none⟩ = some (.string id) ∧ w'.cell? ⟨w1.heap.size, 1, none⟩ = some (.int .i64 i) ∧ w'.cell? ⟨w1.heap.size, 2, none⟩ = some (.int .i64 q))
    from fun w' h => ⟨h, (N2.out.blk.below h hbl2).cell 7, (N2.out.blk.below h hbl2).cell 5, (E1.out.below h).hd.cell 0, (E1.out.below h).hd.cell 1, (E1.out.below h).hd.cell 2⟩)
  have HP := Lib.hid (fun W (hw : Below w2.heap.size w2 W) => HP0.out W (BW.out.trans (hw.mono (by omega))))
  go_region_held3 (fun w' => Below w2.heap.size w2 w' ∧ w'.cell? ⟨b, 7, none⟩ = some (.slice A pn pc) ∧ w'.cell? ⟨b, 5, none⟩ = some (.int .i64 s.now) ∧ w'.cell? ⟨w1.heap.size, 0, none⟩ = some (.string id) ∧ w'.cell? ⟨w1.heap.size, 1, none⟩ = some (.int .i64 i) ∧ w'.cell? ⟨w1.heap.size, 2, none⟩ = some (.int .i64 q))
    ((refine HS.out _ ?_; repeat (first | (with_reducible exact hL3) | (with_reducible exact Below.refl _ _) | (with_reducible refine Below.al5 ?_) | (with_reducible refine Below.drew ?_))))
    ((go_at_call 56; (with_reducible refine (HP.out _ ?ia).mono ?_); (case ia => repeat (first | (with_reducible exact Below.refl _ _) | (with_reducible refine Below.al5 ?_) | (with_reducible refine Below.drew ?_))); rintro e' w3 ⟨A3, c3, l3, rfl, hm3, hp3, hb3, hr3, hk3⟩; have hL3 : Below w2.heap.size w2 w3 := Below.thru5 (by repeat (first | (with_reducible exact Below.refl _ _) | (with_reducible refine Below.al5 ?_) | (with_reducible refine Below.drew ?_))) hb3))
  all_goals
    have E3 := Lib.hid (BW.out.trans (hL3.mono (by omega)))
    have hbl3 : b < w3.heap.size := by have := E3.out.size; omega
    have N3 := Lib.hid (HoldIs.below HH.out E3.out)
    have HK3 := Lib.hid (keeps_from hk3 (by have := BW.out.size; first | exact this | (simp; omega)))
    have NT := Lib.hid (HoldIs.turn (mk' := rnodeCs s.c s.now s.drops) (i := 7) HH.out E3.out hp3 hm3 hr3 HK3.out rfl)
    have KT := Lib.hid ((Kept.of_below (X := X) E3.out).setCell (a := ⟨b, 7, none⟩) (.inl HH.out.xb) (.slice A3 pn c3))
    have f8 := N3.out.blk.frozen 7
    have b7 := NT.out.blk.cell 6
    have f7 := NT.out.blk.frozen 6
    simp [rnodeCs] at b7 f7 f8
    have NS := Lib.hid (HoldIs.set (mk' := rnodeCs s.c s.now (min (s.drops + 1) 1073741824)) NT.out 6 (.int .i64 (min 1073741824 (s.drops + 1))) (by rw [Int.min_comm 1073741824 (s.drops + 1)]; rfl))
    have KS := Lib.hid (KT.out.setCell (a := ⟨b, 6, none⟩) (.inl HH.out.xb) (.int .i64 (min 1073741824 (s.drops + 1))))
    clear hL3 hb3 hm3 hp3 hr3 hk3
    go_wp2
    refine bodyPost_ret (v := .tuple #[.slice none 0 0, .int .i64 5]) (by simp [results, Tryz.results36, go_sem]) rfl ?_
    exact .no (HoldAt.wide (HoldIs.at_ NS.out) (grow_of (by simp [World.setCell])) (fun k hk => hk.2)) KS.out

set_option maxHeartbeats 1000000 in
set_option maxRecDepth 100000 in
theorem rhr_new (h : RNodeIs X w b A pn pc sv l s) (hg : NGood s) (x : ByteArray) {id : ByteArray} {i q : Int} (he : decR x = (id, i, q, 0)) (hb : beatE id i q = 0) (k : Nat) (hk : k < s.D.length) (hkid : (s.D[k]'hk).1 = id) (hnw : Newer (s.D[k]'hk).2.1.1 (s.D[k]'hk).2.1.2.1 i q) (hg2 : NGood { s with D := heardN s.D k i q s.now }) :
    Calls Tryz.prog 36 #[.pointer (some ⟨b, 0, none⟩), .string x] w (RHrIs X b (NSt.tell { s with D := heardN s.D k i q s.now }) (NSt.notes { s with D := heardN s.D k i q s.now }) 0 w) := by
  have HH := Lib.hid h
  have HG := Lib.hid hg
  have HX := Lib.hid h.xlt
  have hbl := h.blk.lt
  have hd0 := hg.drops0
  have hd1 := hg.drops1
  have hn0 := hg.now0
  have hn1 := hg.now1
  have HB := Lib.hid hb
  have hmm : pn ≤ maxLen := Nat.le_trans h.room.1 h.room.2
  have he0 : peersE l = 0 := by rw [peersE_map, h.map]; exact hg.ps.zero
  have HD := Lib.hid (fun W => rdec_any x W)
  simp only [he] at HD
  have hkl : k < l.length := by have e := congrArg List.length h.map; rw [List.length_map] at e; omega
  have hD : s.D[k]'hk = (l[k]'hkl).1 := by simp only [← h.map, List.getElem_map]
  have hdl : (s.D[k]'hk).2.2.2.2 ≤ s.now := (hg.pv _ (List.getElem_mem hk)).2
  have hpd : pid (l[k]'hkl) = id := by rw [← hkid, hD]
  have HP0 := Lib.hid (show ∀ W, Below w.heap.size w W → Calls Tryz.prog 56 #[.slice A pn pc, .agg #[.string id, .int .i64 i, .int .i64 q], .int .i64 s.now] W (HearIs A l (heardN s.D k i q s.now) pn true W) from fun W hw => by have hh := rhear_new A pc w.heap.size pn l hmm id i q s.now W (h.peers.below hw (Nat.le_refl _)) hw.size hb hn0 hn1 (peersE_zero he0).2.1 (peersE_zero he0).2.2 (by rw [← h.peers.len]; exact (peersE_zero he0).1) k hkl hpd (by show (l[k]'hkl).1.2.2.2.2 ≤ s.now; rw [← hD]; exact hdl) (by show Newer (l[k]'hkl).1.2.1.1 (l[k]'hkl).1.2.1.2.1 i q; rw [← hD]; exact hnw); rw [h.map] at hh; simp only [plast] at hh; rw [← hD] at hh; unfold heardN; rw [List.getElem?_eq_getElem hk]; exact hh)
  clear h hg he hb he0 hkid hnw hD hdl hpd
  have HG2 := Lib.hid hg2
  clear hg2
  go_enter Tryz.func36, Tryz.ntmps36
  go_wp2_with fail
  refine (HD.out _).mono ?_
  rintro e' w1 ⟨rfl, hb1⟩
  have N1 := Lib.hid (HoldIs.below HH.out hb1)
  have B1 := Lib.hid hb1
  have hs1 := hb1.size
  clear hb1
  have hid8 : id.size ≤ 8 := (beatE_zero HB.out).1
  have E1 := Lib.hid ((Env.start w1).lay #[.string id, .int .i64 i, .int .i64 q] 103)
  have N2 := Lib.hid (HoldIs.below N1.out E1.out.bel)
  have BW := Lib.hid (B1.out.trans (E1.out.bel.mono hs1))
  go_upto_region 18 with fail
  generalize hW2 : World.alloc w1 _ = w2 at *
  have hs12 : w2.heap.size = w1.heap.size + 1 := by rw [← hW2]; simp
  clear hW2
  have hbl2 := N2.out.blk.lt
  have HS := Lib.hid (show ∀ w', Below w2.heap.size w2 w' → (Below w2.heap.size w2 w' ∧ w'.cell? ⟨b, 7, none⟩ = some (.slice A pn pc) ∧ w'.cell? ⟨b, 5, none⟩ = some (.int .i64 s.now) ∧ w'.cell? ⟨w1.heap.size, 0, none⟩ = some (.string id) ∧ w'.cell? ⟨w1.heap.size, 1, none⟩ = some (.int .i64 i) ∧ w'.cell? ⟨w1.heap.size, 2, none⟩ = some (.int .i64 q))
    from fun w' h => ⟨h, (N2.out.blk.below h hbl2).cell 7, (N2.out.blk.below h hbl2).cell 5, (E1.out.below h).hd.cell 0, (E1.out.below h).hd.cell 1, (E1.out.below h).hd.cell 2⟩)
  have HP := Lib.hid (fun W (hw : Below w2.heap.size w2 W) => HP0.out W (BW.out.trans (hw.mono (by omega))))
  go_region_held3 (fun w' => Below w2.heap.size w2 w' ∧ w'.cell? ⟨b, 7, none⟩ = some (.slice A pn pc) ∧ w'.cell? ⟨b, 5, none⟩ = some (.int .i64 s.now) ∧ w'.cell? ⟨w1.heap.size, 0, none⟩ = some (.string id) ∧ w'.cell? ⟨w1.heap.size, 1, none⟩ = some (.int .i64 i) ∧ w'.cell? ⟨w1.heap.size, 2, none⟩ = some (.int .i64 q))
    ((refine HS.out _ ?_; repeat (first | (with_reducible exact hL3) | (with_reducible exact Below.refl _ _) | (with_reducible refine Below.al5 ?_) | (with_reducible refine Below.drew ?_))))
    ((go_at_call 56; (with_reducible refine (HP.out _ ?ia).mono ?_); (case ia => repeat (first | (with_reducible exact Below.refl _ _) | (with_reducible refine Below.al5 ?_) | (with_reducible refine Below.drew ?_))); rintro e' w3 ⟨A3, c3, l3, rfl, hm3, hp3, hb3, hr3, hk3⟩; have hL3 : Below w2.heap.size w2 w3 := Below.thru5 (by repeat (first | (with_reducible exact Below.refl _ _) | (with_reducible refine Below.al5 ?_) | (with_reducible refine Below.drew ?_))) hb3))
  all_goals
    have E3 := Lib.hid (BW.out.trans (hL3.mono (by omega)))
    have hbl3 : b < w3.heap.size := by have := E3.out.size; omega
    have N3 := Lib.hid (HoldIs.below HH.out E3.out)
    have HK3 := Lib.hid (keeps_from hk3 (by have := BW.out.size; first | exact this | (simp; omega)))
    have NT := Lib.hid (show RNodeIs (grow X w w3) (w3.setCell ⟨b, 7, none⟩ (.slice A3 pn c3)) b A3 pn c3 sv l3 { s with D := heardN s.D k i q s.now } from HoldIs.turn (mk' := rnodeCs s.c s.now s.drops) (i := 7) HH.out E3.out hp3 hm3 hr3 HK3.out rfl)
    have KT := Lib.hid ((Kept.of_below (X := X) E3.out).setCell (a := ⟨b, 7, none⟩) (.inl HH.out.xb) (.slice A3 pn c3))
    have f8 := N3.out.blk.frozen 7
    have hsz : (w3.setCell ⟨b, 7, none⟩ (.slice A3 pn c3)).heap.size = w3.heap.size := by simp [World.setCell]
    have hw3 := E3.out.size
    clear hL3 hb3 hm3 hp3 hr3 hk3
    go_wp2_with fail
    refine (rnotes_any NT.out HG2.out).mono ?_
    rintro e' w6 ⟨A6, c6, rfl, hown6, hn6, hk6⟩
    have FIN := Lib.hid (show RHrIs X b (NSt.tell { s with D := heardN s.D k i q s.now }) (NSt.notes { s with D := heardN s.D k i q s.now }) 0 w (.returned (.tuple #[.slice A6 (NSt.notes { s with D := heardN s.D k i q s.now }).length c6, .int .i64 0])) w6 from
      ⟨A6, c6, rfl, ownsRow_base hown6 (by rw [hsz]; exact hw3), HoldAt.wide (HoldIs.at_ hn6) (grow_of (by have := hk6.size; rw [hsz] at this; exact this)) (fun k hk => hk.2), KT.out.then hk6 (fun k hk => hk.1)⟩)
    clear hown6 hn6 hk6
    go_wp2
    exact bodyPost_ret (v := .tuple #[.slice A6 (NSt.notes { s with D := heardN s.D k i q s.now }).length c6, .int .i64 0]) (by simp [results, Tryz.results36, go_sem]) rfl FIN.out

theorem rhear_any (h : RNodeIs X w b A pn pc sv l s) (hg : NGood s) (x : ByteArray) :
    Calls Tryz.prog 36 #[.pointer (some ⟨b, 0, none⟩), .string x] w (RHrIs X b (s.heard x) (s.hearN x) (s.hearE x) w) := by
  have hgm := hg.mid x
  obtain ⟨id, i, q, er, he⟩ : ∃ id i q er, decR x = (id, i, q, er) := ⟨_, _, _, _, rfl⟩
  unfold NSt.heard NSt.hearN NSt.hearE
  unfold NSt.mid at hgm ⊢
  have hkd : s.kind x = if er ≠ 0 then .no er else match idxOf s.D id with | none => .no 4 | some k => if isNew s.D k i q = true then .new k i q else .old k := by unfold NSt.kind; rw [he]; rfl
  by_cases hz : er ≠ 0
  · rw [if_pos hz] at hkd
    rw [hkd]
    show Calls _ _ _ _ (RHrIs X b (if er = 0 then s.drop.tell else s.drop) (if er = 0 then s.drop.notes else []) er w)
    rw [if_neg hz, if_neg hz]
    exact rhr_dec h hg x he hz
  have hz := Classical.not_not.1 hz
  subst hz
  rw [if_neg (by simp)] at hkd
  have hb : beatE id i q = 0 := by have := decR_zero (s := x) (by rw [he]); rw [he] at this; exact this
  cases hi : idxOf s.D id with
  | none =>
    rw [hi] at hkd
    rw [hkd]
    show Calls _ _ _ _ (RHrIs X b (if (4 : Int) = 0 then s.drop.tell else s.drop) (if (4 : Int) = 0 then s.drop.notes else []) 4 w)
    rw [if_neg (by decide), if_neg (by decide)]
    exact rhr_none h hg x he hb hi
  | some k =>
    rw [hi] at hkd
    obtain ⟨hk, h1, h2⟩ := idx_some hi
    have hin : isNew s.D k i q = decide (Newer (s.D[k]'hk).2.1.1 (s.D[k]'hk).2.1.2.1 i q) := by unfold isNew; rw [List.getElem?_eq_getElem hk]
    by_cases hn : Newer (s.D[k]'hk).2.1.1 (s.D[k]'hk).2.1.2.1 i q
    · have hkd2 : s.kind x = .new k i q := by rw [hkd]; show (if isNew s.D k i q = true then HK.new k i q else HK.old k) = _; rw [hin, if_pos (by simpa using hn)]
      rw [hkd2] at hgm ⊢
      exact rhr_new h hg x he hb k hk h1 hn hgm
    · have hkd2 : s.kind x = .old k := by rw [hkd]; show (if isNew s.D k i q = true then HK.new k i q else HK.old k) = _; rw [hin, if_neg (by simpa using hn)]
      rw [hkd2]
      exact rhr_old h hg x he hb k hk h1 hn
end
end Go.Proofs.YtcikljcjhijjdabGreat
