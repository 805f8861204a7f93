/- chen.Late and the reference's Late, walked. -/
import Derived.Test.YtldfppcdklnmlaeLateP
namespace Go.Proofs.Ytldfppcdklnmlae
open Go.RowKit
set_option linter.unusedSimpArgs false
set_option linter.unusedVariables false

theorem rtime_is (x : Int) (b : Bool) (h : wi x 0 1073741824 = b) (w : World) :
    Calls Try.prog 10 #[.int .i64 x] w fun e w' => e = .returned (.bool b) ∧ w = w' := by
  go_enter Try.func10, Try.ntmps10
  go_wp2_with (go_at_call 9; refine (within_any _ _ _ _).mono ?_; rintro e' w' ⟨rfl, rfl⟩)
  all_goals (go_ret; exact ⟨ret_bool (by simp [h]), rfl⟩)
theorem lrval_is (x : Int) (b : Bool) (h : wi x 0 16777216 = b) (w : World) :
    Calls Try.prog 12 #[.int .i64 x] w fun e w' => e = .returned (.bool b) ∧ w = w' := by
  subst h; exact lrval_any x w

set_option maxHeartbeats 1000000 in
theorem clate_win (cap : Int) (A : Option Addr) (c B n : Nat) (l : List Int) (hn : l.length = n) (si sl : Int) (e : Int) (he : winE cap l = e) (hz : e ≠ 0) (hc : n ≤ c) (hm : c ≤ maxLen) (w : World) (hr : Reads w B 1 A n (cellsI l)) (hB : B ≤ w.heap.size) :
    Calls Try.prog 5 #[.agg #[.int .i64 cap, .slice A n c], .int .i64 si, .int .i64 sl] w fun e' w' => e' = .returned (.tuple #[.bool false, .int .i64 e]) ∧ Below w.heap.size w w' := by
  have HN := Lib.hid hn
  have HE := Lib.hid he
  have HR := Lib.hid hr
  have HB := Lib.hid hB
  have E := Lib.hid ((Env.start w).lay #[.int .i64 cap, .slice A n c] 24)
  clear hn he hr hB
  go_enter Try.func5, Try.ntmps5
  go_wp2_with fail
  refine (wchk_is _ _ _ B _ l HN.out _ HE.out (by omega) _ (HR.out.alloc HB.out _) (by have := HB.out; simp; omega)).mono ?_
  rintro e' w1 ⟨rfl, hb1⟩
  have E1 := Lib.hid (E.out.below hb1)
  clear hb1
  have p0 := E1.out.hd.lt
  have a0 := E1.out.hd.cell 0
  have a1 := E1.out.hd.cell 1
  simp at a0 a1 p0
  go_wp2
  all_goals first
    | (exfalso; omega)
    | (refine bodyPost_ret (v := .tuple #[.bool false, .int .i64 e]) (by simp [results, Try.results5, go_sem]) rfl ⟨rfl, E1.out.bel⟩)

set_option maxHeartbeats 1000000 in
theorem clate_arg (cap : Int) (A : Option Addr) (c B n : Nat) (l : List Int) (hn : l.length = n) (si sl : Int) (he : winE cap l = 0) (h : si < 0 ∨ 1073741824 < si ∨ sl < 0 ∨ 16777216 < sl) (hc : n ≤ c) (hm : c ≤ maxLen) (w : World) (hr : Reads w B 1 A n (cellsI l)) (hB : B ≤ w.heap.size) :
    Calls Try.prog 5 #[.agg #[.int .i64 cap, .slice A n c], .int .i64 si, .int .i64 sl] w fun e' w' => e' = .returned (.tuple #[.bool false, .int .i64 1]) ∧ Below w.heap.size w w' := by
  have HN := Lib.hid hn
  have HE := Lib.hid he
  have HR := Lib.hid hr
  have HB := Lib.hid hB
  have E := Lib.hid ((Env.start w).lay #[.int .i64 cap, .slice A n c] 24)
  clear hn he hr hB
  go_enter Try.func5, Try.ntmps5
  go_wp2_with fail
  refine (wchk_is _ _ _ B _ l HN.out _ HE.out (by omega) _ (HR.out.alloc HB.out _) (by have := HB.out; simp; omega)).mono ?_
  rintro e' w1 ⟨rfl, hb1⟩
  have E1 := Lib.hid (E.out.below hb1)
  clear hb1
  have p0 := E1.out.hd.lt
  have a0 := E1.out.hd.cell 0
  have a1 := E1.out.hd.cell 1
  simp at a0 a1 p0
  go_wp2
  all_goals first
    | (exfalso; omega)
    | (refine bodyPost_ret (v := .tuple #[.bool false, .int .i64 1]) (by simp [results, Try.results5, go_sem]) rfl ⟨rfl, E1.out.bel⟩)

set_option maxHeartbeats 1000000 in
theorem clate_none (cap : Int) (A : Option Addr) (c B : Nat) (l : List Int) (hn : l.length = 0) (si sl : Int) (he : winE cap l = 0) (h1 : wi si 0 1073741824 = true) (h2 : wi sl 0 16777216 = true) (hm : c ≤ maxLen) (w : World) (hr : Reads w B 1 A 0 (cellsI l)) (hB : B ≤ w.heap.size) :
    Calls Try.prog 5 #[.agg #[.int .i64 cap, .slice A 0 c], .int .i64 si, .int .i64 sl] w fun e' w' => e' = .returned (.tuple #[.bool false, .int .i64 4]) ∧ Below w.heap.size w w' := by
  obtain ⟨s0, s1⟩ := wi_true.1 h1
  obtain ⟨t0, t1⟩ := wi_true.1 h2
  clear h1 h2
  have HN := Lib.hid hn
  have HE := Lib.hid he
  have HR := Lib.hid hr
  have HB := Lib.hid hB
  have E := Lib.hid ((Env.start w).lay #[.int .i64 cap, .slice A 0 c] 24)
  clear hn he hr hB
  go_enter Try.func5, Try.ntmps5
  go_wp2_with fail
  refine (wchk_is _ _ _ B _ l HN.out _ HE.out (by unfold maxLen; omega) _ (HR.out.alloc HB.out _) (by have := HB.out; simp; omega)).mono ?_
  rintro e' w1 ⟨rfl, hb1⟩
  have E1 := Lib.hid (E.out.below hb1)
  clear hb1
  have p0 := E1.out.hd.lt
  have a0 := E1.out.hd.cell 0
  have a1 := E1.out.hd.cell 1
  simp at a0 a1 p0
  go_wp2
  all_goals first
    | (exfalso; omega)
    | (refine bodyPost_ret (v := .tuple #[.bool false, .int .i64 4]) (by simp [results, Try.results5, go_sem]) rfl ⟨rfl, E1.out.bel⟩)

def ClateIs (cap : Int) (l : List Int) (si sl : Int) (w : World) (e : Ending) (w' : World) : Prop := e = .returned (.tuple #[.bool (lateB cap l si sl), .int .i64 (lateE cap l si sl)]) ∧ Below w.heap.size w w'
theorem clate_goes {cap : Int} {l : List Int} {si sl e : Int} {b : Bool} {w w' : World} (h : lateE cap l si sl = e ∧ lateB cap l si sl = b) (hb : Below w.heap.size w w') : ClateIs cap l si sl w (.returned (.tuple #[.bool b, .int .i64 e])) w' := by
  unfold ClateIs; rw [h.1, h.2]; exact ⟨rfl, hb⟩

set_option maxHeartbeats 2000000 in
theorem clate_run (cap : Int) (A : Option Addr) (c B n : Nat) (l : List Int) (hn : l.length = n) (si sl : Int) (he : winE cap l = 0) (h1 : wi si 0 1073741824 = true) (h2 : wi sl 0 16777216 = true) (hz : 1 ≤ n) (hc : n ≤ c) (hm : c ≤ maxLen) (w : World) (hr : Reads w B 1 A n (cellsI l)) (hB : B ≤ w.heap.size) :
    Calls Try.prog 5 #[.agg #[.int .i64 cap, .slice A n c], .int .i64 si, .int .i64 sl] w (ClateIs cap l si sl w) := by
  obtain ⟨s0, s1⟩ := wi_true.1 h1
  obtain ⟨t0, t1⟩ := wi_true.1 h2
  have HOK := Lib.hid (late_ok he h1 h2 (by omega : 0 < l.length))
  have hvv := (listE_zero (winE_zero he).2.2.2).2
  have hn64 : n ≤ 64 := by have := (winE_zero he).1; have := (winE_zero he).2; omega
  have HM := Lib.hid (fun k (hk : k ≤ n) => mxT_bd l hvv k (by omega))
  have HV := Lib.hid (fun k (hk : k < n) => vals_of hvv k (by omega))
  have hnz : ((n : Int) == 0) = false := by simp; omega
  clear h1 h2
  clear hvv
  obtain ⟨g, off, rfl, hg, hcells⟩ := hr.addr (by omega)
  have HC := Lib.hid hcells
  have HGL := Lib.hid hg
  clear hcells hg
  have HN := Lib.hid hn
  have HE := Lib.hid he
  have HR := Lib.hid hr
  have HB := Lib.hid hB
  have E := Lib.hid ((Env.start w).lay #[.int .i64 cap, .slice (some ⟨g, off, none⟩) n c] 24)
  clear hn he hr hB
  go_enter Try.func5, Try.ntmps5
  go_wp2_with fail
  refine (wchk_is _ _ _ B _ l HN.out _ HE.out (by omega) _ (HR.out.alloc HB.out _) (by have := HB.out; simp; omega)).mono ?_
  rintro e' w1 ⟨rfl, hb1⟩
  have E1 := Lib.hid (E.out.below hb1)
  clear hb1
  have p0 := E1.out.hd.lt
  have a0 := E1.out.hd.cell 0
  have a1 := E1.out.hd.cell 1
  simp at a0 a1 p0
  have hgw : g < w.heap.size := by have := HGL.out; have := HB.out; omega
  go_wp2
  go_loop [9, 11, 38] (fun m _ i => ∃ k : Nat, k ≤ n ∧ i = .int .i64 k ∧ m = .int .i64 (mxT l k)) (fun _ _ i => n - (intOf i).toNat)
  case atStart => exact ⟨0, Nat.zero_le _, rfl, rfl⟩
  case round =>
    obtain ⟨k, hk, rfl, rfl⟩ := hrel
    obtain ⟨m0, m1⟩ := HM.out k hk
    by_cases hlt : k < n
    · have x0 : w1.cell? ⟨g, off + k, none⟩ = some (.int .i64 (gI l k)) := (E1.out.bel.cell (p := ⟨g, _, none⟩) hgw).trans (HC.out k _ (cellsI_at l k (by rw [HN.out]; exact hlt)))
      obtain ⟨v0, v1⟩ := HV.out k hlt
      have e : l.getD k 0 = gI l k := rfl
      rw [e] at v0 v1
      clear e
      have HNX := Lib.hid (show mxT l (k + 1) = if mxT l k < gI l k then gI l k else mxT l k from rfl)
      generalize gI l k = x at *
      generalize mxT l k = m at *
      go_wp2
      exact ⟨⟨k + 1, hlt, by simp, by rw [HNX.out]⟩, by simp [intOf]; omega⟩
    · have hkn : k = n := by omega
      have HK := Lib.hid hkn
      have hnk : n ≤ k := by omega
      clear hkn
      have HF := Lib.hid (show lateE cap l si sl = 0 ∧ lateB cap l si sl = decide (mxT l k + sl < si) by rw [HK.out, ← HN.out]; exact HOK.out)
      generalize mxT l k = m at *
      by_cases hd : m + sl < si
      · have hdd : decide (m + sl < si) = true := by simpa using hd
        rw [hdd] at HF
        clear hdd
        go_wp2
        refine bodyPost_ret (v := .tuple #[.bool true, .int .i64 0]) (by simp [results, Try.results5, go_sem]) rfl ?_
        exact clate_goes HF.out E1.out.bel
      · have hdd : decide (m + sl < si) = false := by simpa using hd
        rw [hdd] at HF
        clear hdd
        have hd' : si ≤ m + sl := by omega
        go_wp2
        refine bodyPost_ret (v := .tuple #[.bool false, .int .i64 0]) (by simp [results, Try.results5, go_sem]) rfl ?_
        exact clate_goes HF.out E1.out.bel

set_option maxHeartbeats 1000000 in
theorem rlate_win (cap : Int) (A : Option Addr) (c B n : Nat) (l : List Int) (hn : l.length = n) (si sl : Int) (e : Int) (he : winE cap l = e) (hz : e ≠ 0) (hc : n ≤ c) (hm : c ≤ maxLen) (w : World) (hr : Reads w B 1 A n (cellsI l)) (hB : B ≤ w.heap.size) :
    Calls Try.prog 7 #[.agg #[.int .i64 cap, .slice A n c], .int .i64 si, .int .i64 sl] w fun e' w' => e' = .returned (.tuple #[.bool false, .int .i64 e]) ∧ Below w.heap.size w w' := by
  have HN := Lib.hid hn
  have HE := Lib.hid he
  have HR := Lib.hid hr
  have HB := Lib.hid hB
  have E := Lib.hid ((Env.start w).lay #[.int .i64 cap, .slice A n c] 24)
  clear hn he hr hB
  go_enter Try.func7, Try.ntmps7
  go_wp2_with fail
  refine (rwin_is _ _ _ B _ l HN.out _ HE.out (by omega) _ (HR.out.alloc HB.out _) (by have := HB.out; simp; omega)).mono ?_
  rintro e' w1 ⟨rfl, hb1⟩
  have E1 := Lib.hid (E.out.below hb1)
  clear hb1
  have p0 := E1.out.hd.lt
  have a0 := E1.out.hd.cell 0
  have a1 := E1.out.hd.cell 1
  simp at a0 a1 p0
  go_wp2_with (first | (go_at_call 10; refine (rtime_is _ _ rfl _).mono ?_; rintro e' w' ⟨rfl, rfl⟩) | (go_at_call 12; refine (lrval_is _ _ rfl _).mono ?_; rintro e' w' ⟨rfl, rfl⟩))
  all_goals first
    | (exfalso; omega)
    | (refine bodyPost_ret (v := .tuple #[.bool false, .int .i64 e]) (by simp [results, Try.results7, go_sem]) rfl ⟨rfl, E1.out.bel⟩)

set_option maxHeartbeats 1000000 in
theorem rlate_arg (cap : Int) (A : Option Addr) (c B n : Nat) (l : List Int) (hn : l.length = n) (si sl : Int) (he : winE cap l = 0) (h : wi si 0 1073741824 = false ∨ (wi si 0 1073741824 = true ∧ wi sl 0 16777216 = false)) (hc : n ≤ c) (hm : c ≤ maxLen) (w : World) (hr : Reads w B 1 A n (cellsI l)) (hB : B ≤ w.heap.size) :
    Calls Try.prog 7 #[.agg #[.int .i64 cap, .slice A n c], .int .i64 si, .int .i64 sl] w fun e' w' => e' = .returned (.tuple #[.bool false, .int .i64 1]) ∧ Below w.heap.size w w' := by
  have HN := Lib.hid hn
  have HE := Lib.hid he
  have HR := Lib.hid hr
  have HB := Lib.hid hB
  have E := Lib.hid ((Env.start w).lay #[.int .i64 cap, .slice A n c] 24)
  clear hn he hr hB
  rcases h with h | ⟨h, h'⟩
  all_goals
    go_enter Try.func7, Try.ntmps7
    go_wp2_with fail
    refine (rwin_is _ _ _ B _ l HN.out _ HE.out (by omega) _ (HR.out.alloc HB.out _) (by have := HB.out; simp; omega)).mono ?_
    rintro e' w1 ⟨rfl, hb1⟩
    have E1 := Lib.hid (E.out.below hb1)
    clear hb1
    have p0 := E1.out.hd.lt
    have a0 := E1.out.hd.cell 0
    have a1 := E1.out.hd.cell 1
    simp at a0 a1 p0
    go_wp2_with (first | (go_at_call 10; refine (rtime_is _ _ rfl _).mono ?_; rintro e' w' ⟨rfl, rfl⟩) | (go_at_call 12; refine (lrval_is _ _ rfl _).mono ?_; rintro e' w' ⟨rfl, rfl⟩))
    refine bodyPost_ret (v := .tuple #[.bool false, .int .i64 1]) (by simp [results, Try.results7, go_sem]) rfl ⟨rfl, E1.out.bel⟩

set_option maxHeartbeats 1000000 in
theorem rlate_none (cap : Int) (A : Option Addr) (c B : Nat) (l : List Int) (hn : l.length = 0) (si sl : Int) (he : winE cap l = 0) (h1 : wi si 0 1073741824 = true) (h2 : wi sl 0 16777216 = true) (hm : c ≤ maxLen) (w : World) (hr : Reads w B 1 A 0 (cellsI l)) (hB : B ≤ w.heap.size) :
    Calls Try.prog 7 #[.agg #[.int .i64 cap, .slice A 0 c], .int .i64 si, .int .i64 sl] w fun e' w' => e' = .returned (.tuple #[.bool false, .int .i64 4]) ∧ Below w.heap.size w w' := by
  obtain ⟨s0, s1⟩ := wi_true.1 h1
  obtain ⟨t0, t1⟩ := wi_true.1 h2
  have HN := Lib.hid hn
  have HE := Lib.hid he
  have HR := Lib.hid hr
  have HB := Lib.hid hB
  have E := Lib.hid ((Env.start w).lay #[.int .i64 cap, .slice A 0 c] 24)
  clear hn he hr hB
  go_enter Try.func7, Try.ntmps7
  go_wp2_with fail
  refine (rwin_is _ _ _ B _ l HN.out _ HE.out (by unfold maxLen; omega) _ (HR.out.alloc HB.out _) (by have := HB.out; simp; omega)).mono ?_
  rintro e' w1 ⟨rfl, hb1⟩
  have E1 := Lib.hid (E.out.below hb1)
  clear hb1
  have p0 := E1.out.hd.lt
  have a0 := E1.out.hd.cell 0
  have a1 := E1.out.hd.cell 1
  simp at a0 a1 p0
  go_wp2_with (first | (go_at_call 10; refine (rtime_is _ _ rfl _).mono ?_; rintro e' w' ⟨rfl, rfl⟩) | (go_at_call 12; refine (lrval_is _ _ rfl _).mono ?_; rintro e' w' ⟨rfl, rfl⟩))
  go_loop [10, 27] (fun _ i => i = .int .i64 0) (fun _ _ => 0)
  case atStart => exact rfl
  case round =>
    subst hrel
    go_wp2
    refine bodyPost_ret (v := .tuple #[.bool false, .int .i64 4]) (by simp [results, Try.results7, go_sem]) rfl ⟨rfl, E1.out.bel⟩

def RlateIs (cap : Int) (l : List Int) (si sl : Int) (w : World) (e : Ending) (w' : World) : Prop := e = .returned (.tuple #[.bool (lateB cap l si sl), .int .i64 (lateE cap l si sl)]) ∧ Below w.heap.size w w'
theorem rlate_goes {cap : Int} {l : List Int} {si sl e : Int} {b : Bool} {w w' : World} (h : lateE cap l si sl = e ∧ lateB cap l si sl = b) (hb : Below w.heap.size w w') : RlateIs cap l si sl w (.returned (.tuple #[.bool b, .int .i64 e])) w' := by
  unfold RlateIs; rw [h.1, h.2]; exact ⟨rfl, hb⟩

set_option maxHeartbeats 2000000 in
theorem rlate_run (cap : Int) (A : Option Addr) (c B n : Nat) (l : List Int) (hn : l.length = n) (si sl : Int) (he : winE cap l = 0) (h1 : wi si 0 1073741824 = true) (h2 : wi sl 0 16777216 = true) (hz : 1 ≤ n) (hc : n ≤ c) (hm : c ≤ maxLen) (w : World) (hr : Reads w B 1 A n (cellsI l)) (hB : B ≤ w.heap.size) :
    Calls Try.prog 7 #[.agg #[.int .i64 cap, .slice A n c], .int .i64 si, .int .i64 sl] w (RlateIs cap l si sl w) := by
  obtain ⟨s0, s1⟩ := wi_true.1 h1
  obtain ⟨t0, t1⟩ := wi_true.1 h2
  have HOK := Lib.hid (late_ok he h1 h2 (by omega : 0 < l.length))
  have hvv := (listE_zero (winE_zero he).2.2.2).2
  have hn64 : n ≤ 64 := by have := (winE_zero he).1; have := (winE_zero he).2; omega
  have HM := Lib.hid (fun k (hk : k ≤ n) => mxT_bd l hvv k (by omega))
  have HV := Lib.hid (fun k (hk : k < n) => vals_of hvv k (by omega))
  have hnz : ((n : Int) == 0) = false := by simp; omega
  clear hvv
  obtain ⟨g, off, rfl, hg, hcells⟩ := hr.addr (by omega)
  have HC := Lib.hid hcells
  have HGL := Lib.hid hg
  clear hcells hg
  have HN := Lib.hid hn
  have HE := Lib.hid he
  have HR := Lib.hid hr
  have HB := Lib.hid hB
  have E := Lib.hid ((Env.start w).lay #[.int .i64 cap, .slice (some ⟨g, off, none⟩) n c] 24)
  clear hn he hr hB
  go_enter Try.func7, Try.ntmps7
  go_wp2_with fail
  refine (rwin_is _ _ _ B _ l HN.out _ HE.out (by omega) _ (HR.out.alloc HB.out _) (by have := HB.out; simp; omega)).mono ?_
  rintro e' w1 ⟨rfl, hb1⟩
  have E1 := Lib.hid (E.out.below hb1)
  clear hb1
  have p0 := E1.out.hd.lt
  have a0 := E1.out.hd.cell 0
  have a1 := E1.out.hd.cell 1
  simp at a0 a1 p0
  have hgw : g < w.heap.size := by have := HGL.out; have := HB.out; omega
  go_wp2_with (first | (go_at_call 10; refine (rtime_is _ _ rfl _).mono ?_; rintro e' w' ⟨rfl, rfl⟩) | (go_at_call 12; refine (lrval_is _ _ rfl _).mono ?_; rintro e' w' ⟨rfl, rfl⟩))
  go_loop [10, 27] (fun _ i => ∃ k : Nat, k ≤ n ∧ i = .int .i64 k ∧ ∀ j, j < k → gI l j < si - sl) (fun _ i => n - (intOf i).toNat)
  case atStart => exact ⟨0, Nat.zero_le _, rfl, fun j hj => by omega⟩
  case round =>
    obtain ⟨k, hk, rfl, hrel⟩ := hrel
    have HG := Lib.hid hrel
    clear hrel
    by_cases hlt : k < n
    · have x0 : w1.cell? ⟨g, off + k, none⟩ = some (.int .i64 (gI l k)) := (E1.out.bel.cell (p := ⟨g, _, none⟩) hgw).trans (HC.out k _ (cellsI_at l k (by rw [HN.out]; exact hlt)))
      by_cases hle : si - sl ≤ gI l k
      · have HF := Lib.hid (show lateE cap l si sl = 0 ∧ lateB cap l si sl = false from ⟨HOK.out.1, by rw [HOK.out.2, HN.out]; have := mxT_ge l n k hlt; simp; omega⟩)
        generalize gI l k = x at *
        go_wp2
        refine bodyPost_ret (v := .tuple #[.bool false, .int .i64 0]) (by simp [results, Try.results7, go_sem]) rfl ?_
        exact rlate_goes HF.out E1.out.bel
      · have HX := Lib.hid hle
        have hle' : gI l k < si - sl := by omega
        have HL := Lib.hid hle'
        clear hle
        generalize hx : gI l k = x at *
        have HXX := Lib.hid hx
        clear hx
        go_wp2
        go_round
        case rel =>
          refine ⟨k + 1, hlt, by simp, fun j hj => ?_⟩
          by_cases e : j = k
          · subst e; rw [HXX.out]; exact HL.out
          · exact HG.out j (by omega)
        case measure => simp [intOf]; omega
    · have hkn : k = n := by omega
      have HF := Lib.hid (show lateE cap l si sl = 0 ∧ lateB cap l si sl = true by
        refine ⟨HOK.out.1, ?_⟩
        rw [HOK.out.2, HN.out]
        have v := (HV.out 0 (by omega)).1
        have e : l.getD 0 0 = gI l 0 := rfl
        rw [e] at v
        have h0 := HG.out 0 (by omega)
        have := mxT_lt l (si - sl) (by omega) n (fun j hj => HG.out j (by omega))
        simp
        omega)
      clear hkn
      go_wp2
      refine bodyPost_ret (v := .tuple #[.bool true, .int .i64 0]) (by simp [results, Try.results7, go_sem]) rfl ?_
      exact rlate_goes HF.out E1.out.bel
end Go.Proofs.Ytldfppcdklnmlae
