/- The law FadeSays, walked: one walk for each case of the answers. -/
import Derived.Test.YtljnmginngodkafFadeRun
namespace Go.Proofs.Ytljnmginngodkaf
open Go.RowKit
set_option linter.unusedSimpArgs false
set_option linter.unusedVariables false

theorem rlist_is (A : Option Addr) (c B : Nat) (l : List Int) (n : Nat) (hn : l.length = n) (e : Int) (h : listE l = e) (hm : n ≤ maxLen) (w : World) (hr : Reads w B 1 A n (cellsI l)) :
    Calls Try.prog 8 #[.slice A n c] w fun e' w' => e' = .returned (.int .i64 e) ∧ w = w' := by
  subst hn h; exact rlist_any A c B l hm w hr

set_option maxHeartbeats 1000000 in
theorem frun_list (A : Option Addr) (c B n : Nat) (l : List Int) (hn : l.length = n) (k : Int) (e : Int) (he : listE l = e) (hz : e ≠ 0) (hc : n ≤ c) (hm : c ≤ maxLen) (w : World) (hr : Reads w B 1 A n (cellsI l)) :
    Calls Try.prog 5 #[.slice A n c, .int .i64 k] w fun e' w' => e' = .returned (.tuple #[.int .i64 0, .int .i64 e]) ∧ w = w' := by
  have HN := Lib.hid hn
  have HE := Lib.hid he
  have HC := Lib.hid hr
  clear hn he hr
  go_enter Try.func5, Try.ntmps5
  go_wp2_with fail
  refine (wlist_is _ _ _ l n HN.out _ HE.out (by omega) _ HC.out).mono ?_
  rintro e' w' ⟨rfl, rfl⟩
  go_wp2
  all_goals first
    | (exfalso; omega)
    | (refine bodyPost_ret (v := .tuple #[.int .i64 0, .int .i64 e]) (by simp [results, Try.results5, go_sem]) rfl ⟨rfl, rfl⟩)

set_option maxHeartbeats 1000000 in
theorem frun_shift (A : Option Addr) (c B n : Nat) (l : List Int) (hn : l.length = n) (k : Int) (he : listE l = 0) (hk : k < 0 ∨ 8 < k) (hc : n ≤ c) (hm : c ≤ maxLen) (w : World) (hr : Reads w B 1 A n (cellsI l)) :
    Calls Try.prog 5 #[.slice A n c, .int .i64 k] w fun e' w' => e' = .returned (.tuple #[.int .i64 0, .int .i64 1]) ∧ w = w' := by
  have HN := Lib.hid hn
  have HE := Lib.hid he
  have HC := Lib.hid hr
  have h64 : n ≤ 64 := by rw [← hn]; exact (listE_zero he).1
  clear hn he hr
  go_enter Try.func5, Try.ntmps5
  go_wp2_with fail
  refine (wlist_is _ _ _ l n HN.out _ HE.out (by omega) _ HC.out).mono ?_
  rintro e' w' ⟨rfl, rfl⟩
  go_wp2
  all_goals first
    | (exfalso; omega)
    | (refine bodyPost_ret (v := .tuple #[.int .i64 0, .int .i64 1]) (by simp [results, Try.results5, go_sem]) rfl ⟨rfl, rfl⟩)

set_option maxHeartbeats 1000000 in
theorem frun_nil (A : Option Addr) (c B n : Nat) (l : List Int) (hn : l.length = n) (k : Nat) (he : listE l = 0) (hk : k ≤ 8) (hl : n ≤ 0) (hc : n ≤ c) (hm : c ≤ maxLen) (w : World) (hr : Reads w B 1 A n (cellsI l)) :
    Calls Try.prog 5 #[.slice A n c, .int .i64 k] w fun e' w' => e' = .returned (.tuple #[.int .i64 0, .int .i64 4]) ∧ w = w' := by
  have HN := Lib.hid hn
  have HE := Lib.hid he
  have HC := Lib.hid hr
  have h64 : n ≤ 64 := by rw [← hn]; exact (listE_zero he).1
  clear hn he hr
  go_enter Try.func5, Try.ntmps5
  go_wp2_with fail
  refine (wlist_is _ _ _ l n HN.out _ HE.out (by omega) _ HC.out).mono ?_
  rintro e' w' ⟨rfl, rfl⟩
  go_wp2
  all_goals first
    | (exfalso; omega)
    | (refine bodyPost_ret (v := .tuple #[.int .i64 0, .int .i64 4]) (by simp [results, Try.results5, go_sem]) rfl ⟨rfl, rfl⟩)

set_option maxHeartbeats 2000000 in
set_option maxRecDepth 100000 in
theorem fa_n1 (m v : Int) (k : Nat) (A : Option Addr) (c B n : Nat) (l : List Int) (hn : l.length = n) (hg : NextArg m v k) (e : Int) (he : listE l = e) (hz : e ≠ 0) (hc : n ≤ c) (hm : c ≤ maxLen) (w : World) (hr : Reads w B 1 A n (cellsI l)) :
    Calls Try.prog 3 #[.int .i64 m, .int .i64 v, .int .i64 k, .slice A n c] w fun e' w' => e' = .returned (.bool true) ∧ w = w' := by
  have HN := Lib.hid hn
  have HE := Lib.hid he
  have HC := Lib.hid hr
  have HG := Lib.hid hg
  have hv : wi v 0 16777216 = true := wi_true.2 ⟨hg.2.2.1, hg.2.2.2.1⟩
  obtain ⟨m0, m1, v0, v1, k0, k1⟩ := hg
  clear hn he hr
  go_enter Try.func3, Try.ntmps3
  go_wp2_with (first
      | (go_at_call 4; refine (fnext_ok _ _ _ HG.out _).mono ?_; rintro e' w' ⟨rfl, rfl⟩)
      | (go_at_call 5; refine (frun_list _ _ _ n l HN.out _ _ HE.out hz hc hm _ HC.out).mono ?_; rintro e' w' ⟨rfl, rfl⟩)
      | (go_at_call 6; refine (lrval_any _ _).mono ?_; rintro e' w' ⟨rfl, rfl⟩)
      | (go_at_call 7; refine (rnext_ok _ _ _ HG.out _).mono ?_; rintro e' w' ⟨rfl, rfl⟩)
      | (go_at_call 8; refine (rlist_is _ _ _ l n HN.out _ HE.out (by omega) _ HC.out).mono ?_; rintro e' w' ⟨rfl, rfl⟩))
  all_goals first
    | (exfalso; omega)
    | (exfalso; exact HG.out ⟨by omega, by omega, (wi_true.1 (by assumption)).1, (wi_true.1 (by assumption)).2, by omega, by omega⟩)
    | (go_ret; exact ⟨rfl, rfl⟩)
    | (go_ret; simp_all)

set_option maxHeartbeats 2000000 in
set_option maxRecDepth 100000 in
theorem fa_n3 (m v : Int) (k : Nat) (A : Option Addr) (c B n : Nat) (l : List Int) (hn : l.length = n) (hg : NextArg m v k) (he : listE l = 0) (hk : k ≤ 8) (hl : n ≤ 0) (hc : n ≤ c) (hm : c ≤ maxLen) (w : World) (hr : Reads w B 1 A n (cellsI l)) :
    Calls Try.prog 3 #[.int .i64 m, .int .i64 v, .int .i64 k, .slice A n c] w fun e' w' => e' = .returned (.bool true) ∧ w = w' := by
  have HN := Lib.hid hn
  have HE := Lib.hid he
  have HC := Lib.hid hr
  have HG := Lib.hid hg
  have h64 : n ≤ 64 := by rw [← hn]; exact (listE_zero he).1
  have hv : wi v 0 16777216 = true := wi_true.2 ⟨hg.2.2.1, hg.2.2.2.1⟩
  obtain ⟨m0, m1, v0, v1, k0, k1⟩ := hg
  clear hn he hr
  go_enter Try.func3, Try.ntmps3
  go_wp2_with (first
      | (go_at_call 4; refine (fnext_ok _ _ _ HG.out _).mono ?_; rintro e' w' ⟨rfl, rfl⟩)
      | (go_at_call 5; refine (frun_nil _ _ _ n l HN.out _ HE.out hk hl hc hm _ HC.out).mono ?_; rintro e' w' ⟨rfl, rfl⟩)
      | (go_at_call 6; refine (lrval_any _ _).mono ?_; rintro e' w' ⟨rfl, rfl⟩)
      | (go_at_call 7; refine (rnext_ok _ _ _ HG.out _).mono ?_; rintro e' w' ⟨rfl, rfl⟩)
      | (go_at_call 8; refine (rlist_is _ _ _ l n HN.out _ HE.out (by omega) _ HC.out).mono ?_; rintro e' w' ⟨rfl, rfl⟩))
  all_goals first
    | (exfalso; omega)
    | (exfalso; exact HG.out ⟨by omega, by omega, (wi_true.1 (by assumption)).1, (wi_true.1 (by assumption)).2, by omega, by omega⟩)
    | (go_ret; exact ⟨rfl, rfl⟩)
    | (go_ret; simp_all)

set_option maxHeartbeats 2000000 in
set_option maxRecDepth 100000 in
theorem fa_x1 (m v : Int) (k : Int) (A : Option Addr) (c B n : Nat) (l : List Int) (hn : l.length = n) (hg : ¬ NextArg m v k) (e : Int) (he : listE l = e) (hz : e ≠ 0) (hc : n ≤ c) (hm : c ≤ maxLen) (w : World) (hr : Reads w B 1 A n (cellsI l)) :
    Calls Try.prog 3 #[.int .i64 m, .int .i64 v, .int .i64 k, .slice A n c] w fun e' w' => e' = .returned (.bool true) ∧ w = w' := by
  have HN := Lib.hid hn
  have HE := Lib.hid he
  have HC := Lib.hid hr
  have HG := Lib.hid hg
  clear hg
  clear hn he hr
  go_enter Try.func3, Try.ntmps3
  go_wp2_with (first
      | (go_at_call 4; refine (fnext_bad _ _ _ HG.out _).mono ?_; rintro e' w' ⟨rfl, rfl⟩)
      | (go_at_call 5; refine (frun_list _ _ _ n l HN.out _ _ HE.out hz hc hm _ HC.out).mono ?_; rintro e' w' ⟨rfl, rfl⟩)
      | (go_at_call 6; refine (lrval_any _ _).mono ?_; rintro e' w' ⟨rfl, rfl⟩)
      | (go_at_call 7; refine (rnext_ok _ _ _ HG.out _).mono ?_; rintro e' w' ⟨rfl, rfl⟩)
      | (go_at_call 8; refine (rlist_is _ _ _ l n HN.out _ HE.out (by omega) _ HC.out).mono ?_; rintro e' w' ⟨rfl, rfl⟩))
  all_goals first
    | (exfalso; omega)
    | (exfalso; exact HG.out ⟨by omega, by omega, (wi_true.1 (by assumption)).1, (wi_true.1 (by assumption)).2, by omega, by omega⟩)
    | (go_ret; exact ⟨rfl, rfl⟩)
    | (go_ret; simp_all)

set_option maxHeartbeats 2000000 in
set_option maxRecDepth 100000 in
theorem fa_x2 (m v : Int) (k : Int) (A : Option Addr) (c B n : Nat) (l : List Int) (hn : l.length = n) (hg : ¬ NextArg m v k) (he : listE l = 0) (hk : k < 0 ∨ 8 < k) (hc : n ≤ c) (hm : c ≤ maxLen) (w : World) (hr : Reads w B 1 A n (cellsI l)) :
    Calls Try.prog 3 #[.int .i64 m, .int .i64 v, .int .i64 k, .slice A n c] w fun e' w' => e' = .returned (.bool true) ∧ w = w' := by
  have HN := Lib.hid hn
  have HE := Lib.hid he
  have HC := Lib.hid hr
  have HG := Lib.hid hg
  have h64 : n ≤ 64 := by rw [← hn]; exact (listE_zero he).1
  clear hg
  clear hn he hr
  go_enter Try.func3, Try.ntmps3
  go_wp2_with (first
      | (go_at_call 4; refine (fnext_bad _ _ _ HG.out _).mono ?_; rintro e' w' ⟨rfl, rfl⟩)
      | (go_at_call 5; refine (frun_shift _ _ _ n l HN.out _ HE.out hk hc hm _ HC.out).mono ?_; rintro e' w' ⟨rfl, rfl⟩)
      | (go_at_call 6; refine (lrval_any _ _).mono ?_; rintro e' w' ⟨rfl, rfl⟩)
      | (go_at_call 7; refine (rnext_ok _ _ _ HG.out _).mono ?_; rintro e' w' ⟨rfl, rfl⟩)
      | (go_at_call 8; refine (rlist_is _ _ _ l n HN.out _ HE.out (by omega) _ HC.out).mono ?_; rintro e' w' ⟨rfl, rfl⟩))
  all_goals first
    | (exfalso; omega)
    | (exfalso; exact HG.out ⟨by omega, by omega, (wi_true.1 (by assumption)).1, (wi_true.1 (by assumption)).2, by omega, by omega⟩)
    | (go_ret; exact ⟨rfl, rfl⟩)
    | (go_ret; simp_all)

set_option maxHeartbeats 2000000 in
set_option maxRecDepth 100000 in
theorem fa_x3 (m v : Int) (k : Nat) (A : Option Addr) (c B n : Nat) (l : List Int) (hn : l.length = n) (hg : ¬ NextArg m v k) (he : listE l = 0) (hk : k ≤ 8) (hl : n ≤ 0) (hc : n ≤ c) (hm : c ≤ maxLen) (w : World) (hr : Reads w B 1 A n (cellsI l)) :
    Calls Try.prog 3 #[.int .i64 m, .int .i64 v, .int .i64 k, .slice A n c] w fun e' w' => e' = .returned (.bool true) ∧ w = w' := by
  have HN := Lib.hid hn
  have HE := Lib.hid he
  have HC := Lib.hid hr
  have HG := Lib.hid hg
  have h64 : n ≤ 64 := by rw [← hn]; exact (listE_zero he).1
  clear hg
  clear hn he hr
  go_enter Try.func3, Try.ntmps3
  go_wp2_with (first
      | (go_at_call 4; refine (fnext_bad _ _ _ HG.out _).mono ?_; rintro e' w' ⟨rfl, rfl⟩)
      | (go_at_call 5; refine (frun_nil _ _ _ n l HN.out _ HE.out hk hl hc hm _ HC.out).mono ?_; rintro e' w' ⟨rfl, rfl⟩)
      | (go_at_call 6; refine (lrval_any _ _).mono ?_; rintro e' w' ⟨rfl, rfl⟩)
      | (go_at_call 7; refine (rnext_ok _ _ _ HG.out _).mono ?_; rintro e' w' ⟨rfl, rfl⟩)
      | (go_at_call 8; refine (rlist_is _ _ _ l n HN.out _ HE.out (by omega) _ HC.out).mono ?_; rintro e' w' ⟨rfl, rfl⟩))
  all_goals first
    | (exfalso; omega)
    | (exfalso; exact HG.out ⟨by omega, by omega, (wi_true.1 (by assumption)).1, (wi_true.1 (by assumption)).2, by omega, by omega⟩)
    | (go_ret; exact ⟨rfl, rfl⟩)
    | (go_ret; simp_all)

set_option maxHeartbeats 2000000 in
set_option maxRecDepth 100000 in
theorem fa_n4 (m v : Int) (k : Nat) (A : Option Addr) (c B n : Nat) (l : List Int) (hn : l.length = n) (hg : NextArg m v k)  (he : listE l = 0) (hk : k ≤ 8) (hl : 1 ≤ n) (hc : n ≤ c) (hm : c ≤ maxLen) (w : World) (hr : Reads w B 1 A n (cellsI l)) :
    Calls Try.prog 3 #[.int .i64 m, .int .i64 v, .int .i64 k, .slice A n c] w fun e' w' => e' = .returned (.bool true) ∧ w = w' := by
  have HN := Lib.hid hn
  have HE := Lib.hid he
  have HC := Lib.hid hr
  have HG := Lib.hid hg
  have h64 : n ≤ 64 := by rw [← hn]; exact (listE_zero he).1
  have hv : wi v 0 16777216 = true := wi_true.2 ⟨hg.2.2.1, hg.2.2.2.1⟩
  obtain ⟨m0, m1, v0, v1, k0, k1⟩ := hg
  obtain ⟨b, off, rfl, hb, hcells⟩ := hr.addr (by omega)
  have HCC := Lib.hid hcells
  have hcell := hcells 0 _ (cellsI_at l 0 (by omega))
  have hv0 := vals_of (listE_zero he).2 0 (by omega)
  have HB := Lib.hid (fun j (hj : j < n) => runTo_bd l k hk (listE_zero he).2 (by omega) j (by omega))
  have HV := Lib.hid (fun j (hj : j < n) => vals_of (listE_zero he).2 j (by omega))
  have HS := Lib.hid (fun j (hj : j + 1 < n) => runTo_succ l k j (by omega))
  have H0 := Lib.hid (show runTo l k 0 = 256 * l.getD 0 0 by simp [runTo])
  have hnz : ((n : Int) == 0) = false := by simp; omega
  clear hn he hr hcells
  simp only [Nat.add_zero] at hcell
  generalize hx : l.getD 0 0 = x at *
  clear hx
  obtain ⟨x0, x1⟩ := hv0
  by_cases hc1 : c = 1
  · subst hc1
    have h3 : n ≤ 1 := hc
    have HR := Lib.hid (show runTo l k (n - 1) = 256 * x by rw [show n - 1 = 0 by omega]; exact H0.out)
    go_enter Try.func3, Try.ntmps3
    go_wp2_with (first
      | (go_at_call 4; refine (fnext_ok _ _ _ HG.out _).mono ?_; rintro e' w' ⟨rfl, rfl⟩)
      | (go_at_call 5; refine (frun_ok _ _ _ n _ l HN.out HE.out hl hk hc hm _ HC.out).mono ?_; rintro e' w' ⟨rfl, rfl⟩)
      | (go_at_call 6; refine (lrval_any _ _).mono ?_; rintro e' w' ⟨rfl, rfl⟩)
      | (go_at_call 7; refine (rnext_ok _ _ _ HG.out _).mono ?_; rintro e' w' ⟨rfl, rfl⟩)
      | (go_at_call 8; refine (rlist_is _ _ _ l n HN.out _ HE.out (by omega) _ HC.out).mono ?_; rintro e' w' ⟨rfl, rfl⟩))
    go_loop [14, 100] (fun m i => m = .int .i64 (256 * x) ∧ i = .int .i64 0) (fun _ i => 0)
    case atStart => exact ⟨rfl, rfl⟩
    case round =>
      obtain ⟨rfl, rfl⟩ := hrel
      first | rw [HR.out] | rw [H0.out] | skip
      go_wp2
      go_ret
      exact ⟨rfl, rfl⟩
  · have hc2 : ¬ (c : Int) = 1 := by omega
    go_enter Try.func3, Try.ntmps3
    go_wp2_with (first
      | (go_at_call 4; refine (fnext_ok _ _ _ HG.out _).mono ?_; rintro e' w' ⟨rfl, rfl⟩)
      | (go_at_call 5; refine (frun_ok _ _ _ n _ l HN.out HE.out hl hk hc hm _ HC.out).mono ?_; rintro e' w' ⟨rfl, rfl⟩)
      | (go_at_call 6; refine (lrval_any _ _).mono ?_; rintro e' w' ⟨rfl, rfl⟩)
      | (go_at_call 7; refine (rnext_ok _ _ _ HG.out _).mono ?_; rintro e' w' ⟨rfl, rfl⟩)
      | (go_at_call 8; refine (rlist_is _ _ _ l n HN.out _ HE.out (by omega) _ HC.out).mono ?_; rintro e' w' ⟨rfl, rfl⟩))
    go_loop [14, 100] (fun m i => ∃ j : Nat, j ≤ n - 1 ∧ i = .int .i64 j ∧ m = .int .i64 (runTo l k j)) (fun _ i => n - (intOf i).toNat)
    case atStart => exact ⟨0, Nat.zero_le _, rfl, by rw [H0.out]⟩
    case round =>
      obtain ⟨j, hj, rfl, rfl⟩ := hrel
      obtain ⟨r0, r1⟩ := HB.out j (by omega)
      by_cases hlt : j < n - 1
      · have hcj := HCC.out (j + 1) _ (cellsI_at l (j + 1) (by rw [HN.out]; omega))
        have hcj' : w.cell? ⟨b, off + 1 + j, none⟩ = some (.int .i64 (l.getD (j + 1) 0)) := by rw [show off + 1 + j = off + (j + 1) by omega]; exact hcj
        clear hcj
        have hvj := HV.out (j + 1) (by omega)
        have HSJ := Lib.hid (HS.out j (by omega))
        generalize hy : l.getD (j + 1) 0 = y at *
        clear hy
        obtain ⟨y0, y1⟩ := hvj
        generalize hz : runTo l k j = z at *
        clear hz
        have ha : NextArg z y k := ⟨r0, r1, y0, y1, by omega, by omega⟩
        have HA := Lib.hid ha
        clear ha
        go_wp2_with (go_at_call 7; refine (rnext_ok z y k HA.out _).mono ?_; rintro e w' ⟨rfl, rfl⟩)
        go_round
        case rel => exact ⟨j + 1, hlt, by simp, by rw [HSJ.out]⟩
        case measure => simp [intOf]; omega
      · have hjn : j = n - 1 := by omega
        have HJ := Lib.hid (show runTo l k (n - 1) = runTo l k j by rw [hjn])
        have hj2 : n ≤ j + 1 := by omega
        clear hjn
        rw [HJ.out]
        go_wp2
        go_ret
        exact ⟨rfl, rfl⟩

set_option maxHeartbeats 2000000 in
set_option maxRecDepth 100000 in
theorem fa_x4a (m v : Int) (k : Nat) (A : Option Addr) (c B n : Nat) (l : List Int) (hn : l.length = n) (hg : ¬ NextArg m v k) (hm0 : m < 0) (he : listE l = 0) (hk : k ≤ 8) (hl : 1 ≤ n) (hc : n ≤ c) (hm : c ≤ maxLen) (w : World) (hr : Reads w B 1 A n (cellsI l)) :
    Calls Try.prog 3 #[.int .i64 m, .int .i64 v, .int .i64 k, .slice A n c] w fun e' w' => e' = .returned (.bool true) ∧ w = w' := by
  have HN := Lib.hid hn
  have HE := Lib.hid he
  have HC := Lib.hid hr
  have HG := Lib.hid hg
  have h64 : n ≤ 64 := by rw [← hn]; exact (listE_zero he).1
  clear hg
  obtain ⟨b, off, rfl, hb, hcells⟩ := hr.addr (by omega)
  have HCC := Lib.hid hcells
  have hcell := hcells 0 _ (cellsI_at l 0 (by omega))
  have hv0 := vals_of (listE_zero he).2 0 (by omega)
  have HB := Lib.hid (fun j (hj : j < n) => runTo_bd l k hk (listE_zero he).2 (by omega) j (by omega))
  have HV := Lib.hid (fun j (hj : j < n) => vals_of (listE_zero he).2 j (by omega))
  have HS := Lib.hid (fun j (hj : j + 1 < n) => runTo_succ l k j (by omega))
  have H0 := Lib.hid (show runTo l k 0 = 256 * l.getD 0 0 by simp [runTo])
  have hnz : ((n : Int) == 0) = false := by simp; omega
  clear hn he hr hcells
  simp only [Nat.add_zero] at hcell
  generalize hx : l.getD 0 0 = x at *
  clear hx
  obtain ⟨x0, x1⟩ := hv0
  by_cases hc1 : c = 1
  · subst hc1
    have h3 : n ≤ 1 := hc
    have HR := Lib.hid (show runTo l k (n - 1) = 256 * x by rw [show n - 1 = 0 by omega]; exact H0.out)
    go_enter Try.func3, Try.ntmps3
    go_wp2_with (first
      | (go_at_call 4; refine (fnext_bad _ _ _ HG.out _).mono ?_; rintro e' w' ⟨rfl, rfl⟩)
      | (go_at_call 5; refine (frun_ok _ _ _ n _ l HN.out HE.out hl hk hc hm _ HC.out).mono ?_; rintro e' w' ⟨rfl, rfl⟩)
      | (go_at_call 6; refine (lrval_any _ _).mono ?_; rintro e' w' ⟨rfl, rfl⟩)
      | (go_at_call 7; refine (rnext_ok _ _ _ HG.out _).mono ?_; rintro e' w' ⟨rfl, rfl⟩)
      | (go_at_call 8; refine (rlist_is _ _ _ l n HN.out _ HE.out (by omega) _ HC.out).mono ?_; rintro e' w' ⟨rfl, rfl⟩))
    go_loop [14, 100] (fun m i => m = .int .i64 (256 * x) ∧ i = .int .i64 0) (fun _ i => 0)
    case atStart => exact ⟨rfl, rfl⟩
    case round =>
      obtain ⟨rfl, rfl⟩ := hrel
      first | rw [HR.out] | rw [H0.out] | skip
      go_wp2
      go_ret
      exact ⟨rfl, rfl⟩
  · have hc2 : ¬ (c : Int) = 1 := by omega
    go_enter Try.func3, Try.ntmps3
    go_wp2_with (first
      | (go_at_call 4; refine (fnext_bad _ _ _ HG.out _).mono ?_; rintro e' w' ⟨rfl, rfl⟩)
      | (go_at_call 5; refine (frun_ok _ _ _ n _ l HN.out HE.out hl hk hc hm _ HC.out).mono ?_; rintro e' w' ⟨rfl, rfl⟩)
      | (go_at_call 6; refine (lrval_any _ _).mono ?_; rintro e' w' ⟨rfl, rfl⟩)
      | (go_at_call 7; refine (rnext_ok _ _ _ HG.out _).mono ?_; rintro e' w' ⟨rfl, rfl⟩)
      | (go_at_call 8; refine (rlist_is _ _ _ l n HN.out _ HE.out (by omega) _ HC.out).mono ?_; rintro e' w' ⟨rfl, rfl⟩))
    go_loop [14, 100] (fun m i => ∃ j : Nat, j ≤ n - 1 ∧ i = .int .i64 j ∧ m = .int .i64 (runTo l k j)) (fun _ i => n - (intOf i).toNat)
    case atStart => exact ⟨0, Nat.zero_le _, rfl, by rw [H0.out]⟩
    case round =>
      obtain ⟨j, hj, rfl, rfl⟩ := hrel
      obtain ⟨r0, r1⟩ := HB.out j (by omega)
      by_cases hlt : j < n - 1
      · have hcj := HCC.out (j + 1) _ (cellsI_at l (j + 1) (by rw [HN.out]; omega))
        have hcj' : w.cell? ⟨b, off + 1 + j, none⟩ = some (.int .i64 (l.getD (j + 1) 0)) := by rw [show off + 1 + j = off + (j + 1) by omega]; exact hcj
        clear hcj
        have hvj := HV.out (j + 1) (by omega)
        have HSJ := Lib.hid (HS.out j (by omega))
        generalize hy : l.getD (j + 1) 0 = y at *
        clear hy
        obtain ⟨y0, y1⟩ := hvj
        generalize hz : runTo l k j = z at *
        clear hz
        have ha : NextArg z y k := ⟨r0, r1, y0, y1, by omega, by omega⟩
        have HA := Lib.hid ha
        clear ha
        go_wp2_with (go_at_call 7; refine (rnext_ok z y k HA.out _).mono ?_; rintro e w' ⟨rfl, rfl⟩)
        go_round
        case rel => exact ⟨j + 1, hlt, by simp, by rw [HSJ.out]⟩
        case measure => simp [intOf]; omega
      · have hjn : j = n - 1 := by omega
        have HJ := Lib.hid (show runTo l k (n - 1) = runTo l k j by rw [hjn])
        have hj2 : n ≤ j + 1 := by omega
        clear hjn
        rw [HJ.out]
        go_wp2
        go_ret
        exact ⟨rfl, rfl⟩

set_option maxHeartbeats 2000000 in
set_option maxRecDepth 100000 in
theorem fa_x4b (m v : Int) (k : Nat) (A : Option Addr) (c B n : Nat) (l : List Int) (hn : l.length = n) (hg : ¬ NextArg m v k) (hm0 : 4294967296 < m) (he : listE l = 0) (hk : k ≤ 8) (hl : 1 ≤ n) (hc : n ≤ c) (hm : c ≤ maxLen) (w : World) (hr : Reads w B 1 A n (cellsI l)) :
    Calls Try.prog 3 #[.int .i64 m, .int .i64 v, .int .i64 k, .slice A n c] w fun e' w' => e' = .returned (.bool true) ∧ w = w' := by
  have HN := Lib.hid hn
  have HE := Lib.hid he
  have HC := Lib.hid hr
  have HG := Lib.hid hg
  have h64 : n ≤ 64 := by rw [← hn]; exact (listE_zero he).1
  clear hg
  obtain ⟨b, off, rfl, hb, hcells⟩ := hr.addr (by omega)
  have HCC := Lib.hid hcells
  have hcell := hcells 0 _ (cellsI_at l 0 (by omega))
  have hv0 := vals_of (listE_zero he).2 0 (by omega)
  have HB := Lib.hid (fun j (hj : j < n) => runTo_bd l k hk (listE_zero he).2 (by omega) j (by omega))
  have HV := Lib.hid (fun j (hj : j < n) => vals_of (listE_zero he).2 j (by omega))
  have HS := Lib.hid (fun j (hj : j + 1 < n) => runTo_succ l k j (by omega))
  have H0 := Lib.hid (show runTo l k 0 = 256 * l.getD 0 0 by simp [runTo])
  have hnz : ((n : Int) == 0) = false := by simp; omega
  clear hn he hr hcells
  simp only [Nat.add_zero] at hcell
  generalize hx : l.getD 0 0 = x at *
  clear hx
  obtain ⟨x0, x1⟩ := hv0
  by_cases hc1 : c = 1
  · subst hc1
    have h3 : n ≤ 1 := hc
    have HR := Lib.hid (show runTo l k (n - 1) = 256 * x by rw [show n - 1 = 0 by omega]; exact H0.out)
    go_enter Try.func3, Try.ntmps3
    go_wp2_with (first
      | (go_at_call 4; refine (fnext_bad _ _ _ HG.out _).mono ?_; rintro e' w' ⟨rfl, rfl⟩)
      | (go_at_call 5; refine (frun_ok _ _ _ n _ l HN.out HE.out hl hk hc hm _ HC.out).mono ?_; rintro e' w' ⟨rfl, rfl⟩)
      | (go_at_call 6; refine (lrval_any _ _).mono ?_; rintro e' w' ⟨rfl, rfl⟩)
      | (go_at_call 7; refine (rnext_ok _ _ _ HG.out _).mono ?_; rintro e' w' ⟨rfl, rfl⟩)
      | (go_at_call 8; refine (rlist_is _ _ _ l n HN.out _ HE.out (by omega) _ HC.out).mono ?_; rintro e' w' ⟨rfl, rfl⟩))
    go_loop [14, 100] (fun m i => m = .int .i64 (256 * x) ∧ i = .int .i64 0) (fun _ i => 0)
    case atStart => exact ⟨rfl, rfl⟩
    case round =>
      obtain ⟨rfl, rfl⟩ := hrel
      first | rw [HR.out] | rw [H0.out] | skip
      go_wp2
      go_ret
      exact ⟨rfl, rfl⟩
  · have hc2 : ¬ (c : Int) = 1 := by omega
    go_enter Try.func3, Try.ntmps3
    go_wp2_with (first
      | (go_at_call 4; refine (fnext_bad _ _ _ HG.out _).mono ?_; rintro e' w' ⟨rfl, rfl⟩)
      | (go_at_call 5; refine (frun_ok _ _ _ n _ l HN.out HE.out hl hk hc hm _ HC.out).mono ?_; rintro e' w' ⟨rfl, rfl⟩)
      | (go_at_call 6; refine (lrval_any _ _).mono ?_; rintro e' w' ⟨rfl, rfl⟩)
      | (go_at_call 7; refine (rnext_ok _ _ _ HG.out _).mono ?_; rintro e' w' ⟨rfl, rfl⟩)
      | (go_at_call 8; refine (rlist_is _ _ _ l n HN.out _ HE.out (by omega) _ HC.out).mono ?_; rintro e' w' ⟨rfl, rfl⟩))
    go_loop [14, 100] (fun m i => ∃ j : Nat, j ≤ n - 1 ∧ i = .int .i64 j ∧ m = .int .i64 (runTo l k j)) (fun _ i => n - (intOf i).toNat)
    case atStart => exact ⟨0, Nat.zero_le _, rfl, by rw [H0.out]⟩
    case round =>
      obtain ⟨j, hj, rfl, rfl⟩ := hrel
      obtain ⟨r0, r1⟩ := HB.out j (by omega)
      by_cases hlt : j < n - 1
      · have hcj := HCC.out (j + 1) _ (cellsI_at l (j + 1) (by rw [HN.out]; omega))
        have hcj' : w.cell? ⟨b, off + 1 + j, none⟩ = some (.int .i64 (l.getD (j + 1) 0)) := by rw [show off + 1 + j = off + (j + 1) by omega]; exact hcj
        clear hcj
        have hvj := HV.out (j + 1) (by omega)
        have HSJ := Lib.hid (HS.out j (by omega))
        generalize hy : l.getD (j + 1) 0 = y at *
        clear hy
        obtain ⟨y0, y1⟩ := hvj
        generalize hz : runTo l k j = z at *
        clear hz
        have ha : NextArg z y k := ⟨r0, r1, y0, y1, by omega, by omega⟩
        have HA := Lib.hid ha
        clear ha
        go_wp2_with (go_at_call 7; refine (rnext_ok z y k HA.out _).mono ?_; rintro e w' ⟨rfl, rfl⟩)
        go_round
        case rel => exact ⟨j + 1, hlt, by simp, by rw [HSJ.out]⟩
        case measure => simp [intOf]; omega
      · have hjn : j = n - 1 := by omega
        have HJ := Lib.hid (show runTo l k (n - 1) = runTo l k j by rw [hjn])
        have hj2 : n ≤ j + 1 := by omega
        clear hjn
        rw [HJ.out]
        go_wp2
        go_ret
        exact ⟨rfl, rfl⟩

set_option maxHeartbeats 2000000 in
set_option maxRecDepth 100000 in
theorem fa_x4c (m v : Int) (k : Nat) (A : Option Addr) (c B n : Nat) (l : List Int) (hn : l.length = n) (hg : ¬ NextArg m v k) (hm0 : 0 ≤ m) (hm1 : m ≤ 4294967296) (hw : wi v 0 16777216 = false) (he : listE l = 0) (hk : k ≤ 8) (hl : 1 ≤ n) (hc : n ≤ c) (hm : c ≤ maxLen) (w : World) (hr : Reads w B 1 A n (cellsI l)) :
    Calls Try.prog 3 #[.int .i64 m, .int .i64 v, .int .i64 k, .slice A n c] w fun e' w' => e' = .returned (.bool true) ∧ w = w' := by
  have HN := Lib.hid hn
  have HE := Lib.hid he
  have HC := Lib.hid hr
  have HG := Lib.hid hg
  have h64 : n ≤ 64 := by rw [← hn]; exact (listE_zero he).1
  clear hg
  obtain ⟨b, off, rfl, hb, hcells⟩ := hr.addr (by omega)
  have HCC := Lib.hid hcells
  have hcell := hcells 0 _ (cellsI_at l 0 (by omega))
  have hv0 := vals_of (listE_zero he).2 0 (by omega)
  have HB := Lib.hid (fun j (hj : j < n) => runTo_bd l k hk (listE_zero he).2 (by omega) j (by omega))
  have HV := Lib.hid (fun j (hj : j < n) => vals_of (listE_zero he).2 j (by omega))
  have HS := Lib.hid (fun j (hj : j + 1 < n) => runTo_succ l k j (by omega))
  have H0 := Lib.hid (show runTo l k 0 = 256 * l.getD 0 0 by simp [runTo])
  have hnz : ((n : Int) == 0) = false := by simp; omega
  clear hn he hr hcells
  simp only [Nat.add_zero] at hcell
  generalize hx : l.getD 0 0 = x at *
  clear hx
  obtain ⟨x0, x1⟩ := hv0
  by_cases hc1 : c = 1
  · subst hc1
    have h3 : n ≤ 1 := hc
    have HR := Lib.hid (show runTo l k (n - 1) = 256 * x by rw [show n - 1 = 0 by omega]; exact H0.out)
    go_enter Try.func3, Try.ntmps3
    go_wp2_with (first
      | (go_at_call 4; refine (fnext_bad _ _ _ HG.out _).mono ?_; rintro e' w' ⟨rfl, rfl⟩)
      | (go_at_call 5; refine (frun_ok _ _ _ n _ l HN.out HE.out hl hk hc hm _ HC.out).mono ?_; rintro e' w' ⟨rfl, rfl⟩)
      | (go_at_call 6; refine (lrval_any _ _).mono ?_; rintro e' w' ⟨rfl, rfl⟩)
      | (go_at_call 7; refine (rnext_ok _ _ _ HG.out _).mono ?_; rintro e' w' ⟨rfl, rfl⟩)
      | (go_at_call 8; refine (rlist_is _ _ _ l n HN.out _ HE.out (by omega) _ HC.out).mono ?_; rintro e' w' ⟨rfl, rfl⟩))
    go_loop [14, 100] (fun m i => m = .int .i64 (256 * x) ∧ i = .int .i64 0) (fun _ i => 0)
    case atStart => exact ⟨rfl, rfl⟩
    case round =>
      obtain ⟨rfl, rfl⟩ := hrel
      first | rw [HR.out] | rw [H0.out] | skip
      go_wp2
      go_ret
      exact ⟨rfl, rfl⟩
  · have hc2 : ¬ (c : Int) = 1 := by omega
    go_enter Try.func3, Try.ntmps3
    go_wp2_with (first
      | (go_at_call 4; refine (fnext_bad _ _ _ HG.out _).mono ?_; rintro e' w' ⟨rfl, rfl⟩)
      | (go_at_call 5; refine (frun_ok _ _ _ n _ l HN.out HE.out hl hk hc hm _ HC.out).mono ?_; rintro e' w' ⟨rfl, rfl⟩)
      | (go_at_call 6; refine (lrval_any _ _).mono ?_; rintro e' w' ⟨rfl, rfl⟩)
      | (go_at_call 7; refine (rnext_ok _ _ _ HG.out _).mono ?_; rintro e' w' ⟨rfl, rfl⟩)
      | (go_at_call 8; refine (rlist_is _ _ _ l n HN.out _ HE.out (by omega) _ HC.out).mono ?_; rintro e' w' ⟨rfl, rfl⟩))
    go_loop [14, 100] (fun m i => ∃ j : Nat, j ≤ n - 1 ∧ i = .int .i64 j ∧ m = .int .i64 (runTo l k j)) (fun _ i => n - (intOf i).toNat)
    case atStart => exact ⟨0, Nat.zero_le _, rfl, by rw [H0.out]⟩
    case round =>
      obtain ⟨j, hj, rfl, rfl⟩ := hrel
      obtain ⟨r0, r1⟩ := HB.out j (by omega)
      by_cases hlt : j < n - 1
      · have hcj := HCC.out (j + 1) _ (cellsI_at l (j + 1) (by rw [HN.out]; omega))
        have hcj' : w.cell? ⟨b, off + 1 + j, none⟩ = some (.int .i64 (l.getD (j + 1) 0)) := by rw [show off + 1 + j = off + (j + 1) by omega]; exact hcj
        clear hcj
        have hvj := HV.out (j + 1) (by omega)
        have HSJ := Lib.hid (HS.out j (by omega))
        generalize hy : l.getD (j + 1) 0 = y at *
        clear hy
        obtain ⟨y0, y1⟩ := hvj
        generalize hz : runTo l k j = z at *
        clear hz
        have ha : NextArg z y k := ⟨r0, r1, y0, y1, by omega, by omega⟩
        have HA := Lib.hid ha
        clear ha
        go_wp2_with (go_at_call 7; refine (rnext_ok z y k HA.out _).mono ?_; rintro e w' ⟨rfl, rfl⟩)
        go_round
        case rel => exact ⟨j + 1, hlt, by simp, by rw [HSJ.out]⟩
        case measure => simp [intOf]; omega
      · have hjn : j = n - 1 := by omega
        have HJ := Lib.hid (show runTo l k (n - 1) = runTo l k j by rw [hjn])
        have hj2 : n ≤ j + 1 := by omega
        clear hjn
        rw [HJ.out]
        go_wp2
        go_ret
        exact ⟨rfl, rfl⟩

theorem fadeSays_walk (m v k : Int) (A : Option Addr) (c : Nat) (l : List Int)
    (_a : -9223372036854775808 ≤ m) (_b : m ≤ 9223372036854775807) (_c : -9223372036854775808 ≤ v) (_d : v ≤ 9223372036854775807) (_e : -9223372036854775808 ≤ k) (_f : k ≤ 9223372036854775807) (w : World)
    (hr : Reads w w.heap.size 1 A l.length (cellsI l)) (hb : l.length ≤ c ∧ c ≤ maxLen) (_s : ∀ x ∈ l, -9223372036854775808 ≤ x ∧ x ≤ 9223372036854775807) :
    Calls Try.prog 3 #[.int .i64 m, .int .i64 v, .int .i64 k, .slice A l.length c] w fun e' w' => e' = .returned (.bool true) ∧ w = w' := by
  obtain ⟨hc, hm⟩ := hb
  by_cases he : listE l = 0
  · by_cases hk : k < 0 ∨ 8 < k
    · exact fa_x2 m v k A c _ _ l rfl (fun h => by obtain ⟨-, -, -, -, h0, h1⟩ := h; omega) he hk hc hm w hr
    · obtain ⟨j, rfl⟩ := Int.eq_ofNat_of_zero_le (show 0 ≤ k by omega)
      have hj : j ≤ 8 := by omega
      by_cases hg : NextArg m v j
      · rcases Nat.eq_zero_or_pos l.length with h0 | h0
        · exact fa_n3 m v j A c _ _ l rfl hg he hj (by omega) hc hm w hr
        · exact fa_n4 m v j A c _ _ l rfl hg he hj h0 hc hm w hr
      · rcases Nat.eq_zero_or_pos l.length with h0 | h0
        · exact fa_x3 m v j A c _ _ l rfl hg he hj (by omega) hc hm w hr
        · by_cases h1 : m < 0
          · exact fa_x4a m v j A c _ _ l rfl hg h1 he hj h0 hc hm w hr
          · by_cases h2 : 4294967296 < m
            · exact fa_x4b m v j A c _ _ l rfl hg h2 he hj h0 hc hm w hr
            · refine fa_x4c m v j A c _ _ l rfl hg (by omega) (by omega) ?_ he hj h0 hc hm w hr
              cases hw : wi v 0 16777216
              · rfl
              · obtain ⟨v0, v1⟩ := wi_true.1 hw
                exact absurd ⟨by omega, by omega, v0, v1, by omega, by omega⟩ hg
  · by_cases hg : NextArg m v k
    · obtain ⟨j, rfl⟩ := Int.eq_ofNat_of_zero_le hg.2.2.2.2.1
      exact fa_n1 m v j A c _ _ l rfl hg _ rfl he hc hm w hr
    · exact fa_x1 m v k A c _ _ l rfl hg _ rfl he hc hm w hr
end Go.Proofs.Ytljnmginngodkaf
