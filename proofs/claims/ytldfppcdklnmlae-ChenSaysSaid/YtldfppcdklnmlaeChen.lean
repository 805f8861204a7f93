/- chen.Expect and the reference's Expect, walked. -/
import Derived.Test.YtldfppcdklnmlaeLateP
import Derived.BigRegion
namespace Go.Proofs.Ytldfppcdklnmlae
open Go.RowKit
set_option linter.unusedSimpArgs false
set_option linter.unusedVariables false

def AllC (S T : List Int) : Prop := ∀ k, k < S.length → GoodC S T k
instance (S T : List Int) : Decidable (AllC S T) := by unfold AllC; infer_instance
def expE (S T : List Int) (ev : Int) : Int :=
  if 64 < S.length ∨ 64 < T.length then 2 else if wi ev 1 16777216 = true then (if S.length = T.length then (if AllC S T then (if S.length = 0 then 4 else 0) else 1) else 3) else 1
def expV (S T : List Int) (ev : Int) : Int := if expE S T ev = 0 then sumC S T ev S.length / (S.length : Int) + ev * (lastS S S.length + 1) else 0

theorem exp_large {S T : List Int} {ev : Int} (h : 64 < S.length ∨ 64 < T.length) : expE S T ev = 2 ∧ expV S T ev = 0 := by
  have e : expE S T ev = 2 := by unfold expE; rw [if_pos h]
  exact ⟨e, by unfold expV; rw [e]; simp⟩
theorem exp_ev {S T : List Int} {ev : Int} (h : ¬ (64 < S.length ∨ 64 < T.length)) (h1 : wi ev 1 16777216 = false) : expE S T ev = 1 ∧ expV S T ev = 0 := by
  have e : expE S T ev = 1 := by unfold expE; rw [if_neg h, if_neg (by simp [h1])]
  exact ⟨e, by unfold expV; rw [e]; simp⟩
theorem exp_len {S T : List Int} {ev : Int} (h : ¬ (64 < S.length ∨ 64 < T.length)) (h1 : wi ev 1 16777216 = true) (h2 : S.length ≠ T.length) : expE S T ev = 3 ∧ expV S T ev = 0 := by
  have e : expE S T ev = 3 := by unfold expE; rw [if_neg h, if_pos h1, if_neg h2]
  exact ⟨e, by unfold expV; rw [e]; simp⟩
theorem exp_bad {S T : List Int} {ev : Int} (h : ¬ (64 < S.length ∨ 64 < T.length)) (h1 : wi ev 1 16777216 = true) (h2 : S.length = T.length) (k : Nat) (hk : k < S.length) (h3 : ¬ GoodC S T k) : expE S T ev = 1 ∧ expV S T ev = 0 := by
  have e : expE S T ev = 1 := by unfold expE; rw [if_neg h, if_pos h1, if_pos h2, if_neg (fun a => h3 (a k hk))]
  exact ⟨e, by unfold expV; rw [e]; simp⟩
theorem exp_none {S T : List Int} {ev : Int} (h1 : wi ev 1 16777216 = true) (h2 : T.length = 0) (h3 : S.length = 0) : expE S T ev = 4 ∧ expV S T ev = 0 := by
  have e : expE S T ev = 4 := by
    unfold expE
    rw [if_neg (by omega), if_pos h1, if_pos (by omega), if_pos (by intro k hk; omega), if_pos h3]
  exact ⟨e, by unfold expV; rw [e]; simp⟩
theorem exp_ok {S T : List Int} {ev : Int} (h : ¬ (64 < S.length ∨ 64 < T.length)) (h1 : wi ev 1 16777216 = true) (h2 : S.length = T.length) (h3 : AllC S T) (h4 : 0 < S.length) :
    expE S T ev = 0 ∧ expV S T ev = sumC S T ev S.length / (S.length : Int) + ev * (lastS S S.length + 1) := by
  have e : expE S T ev = 0 := by unfold expE; rw [if_neg h, if_pos h1, if_pos h2, if_pos h3, if_neg (by omega)]
  exact ⟨e, by unfold expV; rw [if_pos e]⟩

theorem tdiv_parts (d p : Int) (hp : 0 < p) (hp2 : p ≤ 64) (h0 : -1125899906842624 ≤ d) (h1 : d ≤ 1125899906842624) :
    -1125899906842624 ≤ d.tdiv p ∧ d.tdiv p ≤ 1125899906842624 ∧ -64 ≤ d.tmod p ∧ d.tmod p ≤ 64 ∧ (d.tmod p < 0 → d / p = d.tdiv p - 1) ∧ (0 ≤ d.tmod p → d / p = d.tdiv p) ∧ d.tdiv p * p + d.tmod p = d := by
  have e : d.tdiv p * p + d.tmod p = d := by rw [Int.mul_comm]; exact Int.mul_tdiv_add_tmod d p
  have r1 := Int.tmod_lt_of_pos d hp
  have r0 : -p < d.tmod p := by
    have h := Int.tmod_lt_of_pos (-d) hp
    rw [Int.neg_tmod] at h
    omega
  have f1 : d.tmod p < 0 → d / p = d.tdiv p - 1 := fun h =>
    ((Int.ediv_emod_unique hp (r := d.tmod p + p)).2 ⟨by rw [Int.mul_sub, Int.mul_one, Int.mul_comm]; omega, by omega, by omega⟩).1
  have f2 : 0 ≤ d.tmod p → d / p = d.tdiv p := fun h =>
    ((Int.ediv_emod_unique hp (r := d.tmod p)).2 ⟨by rw [Int.mul_comm]; omega, by omega, by omega⟩).1
  have b0 : -1125899906842624 ≤ d / p := by
    rw [Int.le_ediv_iff_mul_le hp]
    have := Int.mul_le_mul_of_nonneg_left (show (1 : Int) ≤ p by omega) (show (0 : Int) ≤ 1125899906842624 by omega)
    omega
  have b1 : d / p < 1125899906842625 := by
    rw [Int.ediv_lt_iff_lt_mul hp]
    have := Int.mul_le_mul_of_nonneg_left (show (1 : Int) ≤ p by omega) (show (0 : Int) ≤ 1125899906842625 by omega)
    omega
  have c0 : -1125899906842624 ≤ d.tdiv p := by
    rcases Int.lt_or_le (d.tmod p) 0 with h | h
    · have := f1 h; omega
    · have := f2 h; omega
  have c1 : d.tdiv p ≤ 1125899906842624 := by
    rcases Int.lt_or_le (d.tmod p) 0 with h | h
    · have := f1 h
      rcases Int.lt_or_le (d.tdiv p) 1125899906842625 with h' | h'
      · omega
      · have hm := Int.mul_le_mul_of_nonneg_right (show (1125899906842625 : Int) ≤ d.tdiv p by omega) (show (0 : Int) ≤ p by omega)
        have hm2 := Int.mul_le_mul_of_nonneg_left (show (1 : Int) ≤ p by omega) (show (0 : Int) ≤ 1125899906842625 by omega)
        omega
    · have := f2 h; omega
  exact ⟨c0, c1, by omega, by omega, f1, f2, e⟩

set_option maxHeartbeats 1000000 in
theorem cexp_large (A A' : Option Addr) (c c' B n m : Nat) (S T : List Int) (hn : S.length = n) (hm : T.length = m) (ev : Int) (h : 64 < n ∨ 64 < m) (hc : n ≤ c) (hcm : c ≤ maxLen) (hc' : m ≤ c') (hcm' : c' ≤ maxLen) (w : World) (hr : Reads w B 1 A n (cellsI S)) (hr' : Reads w B 1 A' m (cellsI T)) :
    Calls Try.prog 4 #[.slice A n c, .slice A' m c', .int .i64 ev] w fun e' w' => e' = .returned (.tuple #[.int .i64 0, .int .i64 2]) ∧ Below w.heap.size w w' := by
  clear hn hm hr hr' 
  go_enter Try.func4, Try.ntmps4
  go_wp2
  all_goals first
    | (exfalso; omega)
    | (refine bodyPost_ret (v := .tuple #[.int .i64 0, .int .i64 2]) (by simp [results, Try.results4, go_sem]) rfl ⟨rfl, Below.refl _ _⟩)

set_option maxHeartbeats 1000000 in
theorem cexp_ev (A A' : Option Addr) (c c' B n m : Nat) (S T : List Int) (hn : S.length = n) (hm : T.length = m) (ev : Int) (h0 : n ≤ 64) (h0' : m ≤ 64) (h : ev < 1 ∨ 16777216 < ev) (hc : n ≤ c) (hcm : c ≤ maxLen) (hc' : m ≤ c') (hcm' : c' ≤ maxLen) (w : World) (hr : Reads w B 1 A n (cellsI S)) (hr' : Reads w B 1 A' m (cellsI T)) :
    Calls Try.prog 4 #[.slice A n c, .slice A' m c', .int .i64 ev] w fun e' w' => e' = .returned (.tuple #[.int .i64 0, .int .i64 1]) ∧ Below w.heap.size w w' := by
  clear hn hm hr hr' 
  go_enter Try.func4, Try.ntmps4
  go_wp2
  all_goals first
    | (exfalso; omega)
    | (refine bodyPost_ret (v := .tuple #[.int .i64 0, .int .i64 1]) (by simp [results, Try.results4, go_sem]) rfl ⟨rfl, Below.refl _ _⟩)

set_option maxHeartbeats 1000000 in
theorem cexp_len (A A' : Option Addr) (c c' B n m : Nat) (S T : List Int) (hn : S.length = n) (hm : T.length = m) (ev : Int) (h0 : n ≤ 64) (h0' : m ≤ 64) (h : 1 ≤ ev) (h' : ev ≤ 16777216) (hne : n ≠ m) (hc : n ≤ c) (hcm : c ≤ maxLen) (hc' : m ≤ c') (hcm' : c' ≤ maxLen) (w : World) (hr : Reads w B 1 A n (cellsI S)) (hr' : Reads w B 1 A' m (cellsI T)) :
    Calls Try.prog 4 #[.slice A n c, .slice A' m c', .int .i64 ev] w fun e' w' => e' = .returned (.tuple #[.int .i64 0, .int .i64 3]) ∧ Below w.heap.size w w' := by
  have hx : ((n : Int) != (m : Int)) = true := bne_iff_ne.2 (by omega)
  clear hn hm hr hr' hne
  go_enter Try.func4, Try.ntmps4
  go_wp2
  all_goals first
    | (exfalso; omega)
    | (refine bodyPost_ret (v := .tuple #[.int .i64 0, .int .i64 3]) (by simp [results, Try.results4, go_sem]) rfl ⟨rfl, Below.refl _ _⟩)

set_option maxHeartbeats 1000000 in
theorem rexp_large (A A' : Option Addr) (c c' B n m : Nat) (S T : List Int) (hn : S.length = n) (hm : T.length = m) (ev : Int) (h : 64 < n ∨ 64 < m) (hc : n ≤ c) (hcm : c ≤ maxLen) (hc' : m ≤ c') (hcm' : c' ≤ maxLen) (w : World) (hr : Reads w B 1 A n (cellsI S)) (hr' : Reads w B 1 A' m (cellsI T)) :
    Calls Try.prog 6 #[.slice A n c, .slice A' m c', .int .i64 ev] w fun e' w' => e' = .returned (.tuple #[.int .i64 0, .int .i64 2]) ∧ Below w.heap.size w w' := by
  clear hn hm hr hr' 
  go_enter Try.func6, Try.ntmps6
  go_wp2_with (go_at_call 9; refine (within_any _ _ _ _).mono ?_; rintro e' w' ⟨rfl, rfl⟩)
  all_goals first
    | (exfalso; omega)
    | (refine bodyPost_ret (v := .tuple #[.int .i64 0, .int .i64 2]) (by simp [results, Try.results6, go_sem]) rfl ⟨rfl, Below.refl _ _⟩)

set_option maxHeartbeats 1000000 in
theorem rexp_ev (A A' : Option Addr) (c c' B n m : Nat) (S T : List Int) (hn : S.length = n) (hm : T.length = m) (ev : Int) (h0 : n ≤ 64) (h0' : m ≤ 64) (h : ev < 1 ∨ 16777216 < ev) (hc : n ≤ c) (hcm : c ≤ maxLen) (hc' : m ≤ c') (hcm' : c' ≤ maxLen) (w : World) (hr : Reads w B 1 A n (cellsI S)) (hr' : Reads w B 1 A' m (cellsI T)) :
    Calls Try.prog 6 #[.slice A n c, .slice A' m c', .int .i64 ev] w fun e' w' => e' = .returned (.tuple #[.int .i64 0, .int .i64 1]) ∧ Below w.heap.size w w' := by
  have hw : wi ev 1 16777216 = false := wi_false.2 h
  clear hn hm hr hr' 
  go_enter Try.func6, Try.ntmps6
  go_wp2_with (go_at_call 9; refine (within_any _ _ _ _).mono ?_; rintro e' w' ⟨rfl, rfl⟩)
  all_goals first
    | (exfalso; omega)
    | (refine bodyPost_ret (v := .tuple #[.int .i64 0, .int .i64 1]) (by simp [results, Try.results6, go_sem]) rfl ⟨rfl, Below.refl _ _⟩)

set_option maxHeartbeats 1000000 in
theorem rexp_len (A A' : Option Addr) (c c' B n m : Nat) (S T : List Int) (hn : S.length = n) (hm : T.length = m) (ev : Int) (h0 : n ≤ 64) (h0' : m ≤ 64) (h : 1 ≤ ev) (h' : ev ≤ 16777216) (hne : n ≠ m) (hc : n ≤ c) (hcm : c ≤ maxLen) (hc' : m ≤ c') (hcm' : c' ≤ maxLen) (w : World) (hr : Reads w B 1 A n (cellsI S)) (hr' : Reads w B 1 A' m (cellsI T)) :
    Calls Try.prog 6 #[.slice A n c, .slice A' m c', .int .i64 ev] w fun e' w' => e' = .returned (.tuple #[.int .i64 0, .int .i64 3]) ∧ Below w.heap.size w w' := by
  have hx : ((n : Int) != (m : Int)) = true := bne_iff_ne.2 (by omega)
  have hw : wi ev 1 16777216 = true := wi_true.2 ⟨h, h'⟩
  clear hn hm hr hr' hne
  go_enter Try.func6, Try.ntmps6
  go_wp2_with (go_at_call 9; refine (within_any _ _ _ _).mono ?_; rintro e' w' ⟨rfl, rfl⟩)
  all_goals first
    | (exfalso; omega)
    | (refine bodyPost_ret (v := .tuple #[.int .i64 0, .int .i64 3]) (by simp [results, Try.results6, go_sem]) rfl ⟨rfl, Below.refl _ _⟩)

set_option maxHeartbeats 1000000 in
theorem cexp_none (A A' : Option Addr) (c c' : Nat) (ev : Int) (h : 1 ≤ ev) (h' : ev ≤ 16777216) (w : World) :
    Calls Try.prog 4 #[.slice A 0 c, .slice A' 0 c', .int .i64 ev] w fun e' w' => e' = .returned (.tuple #[.int .i64 0, .int .i64 4]) ∧ Below w.heap.size w w' := by
  go_enter Try.func4, Try.ntmps4
  go_wp2
  go_loop [8, 9, 10, 11, 35] (fun s l _ _ i => s = .int .i64 0 ∧ l = .int .i64 0 ∧ i = .int .i64 0) (fun _ _ _ _ _ => 0)
  case atStart => exact ⟨rfl, rfl, rfl⟩
  case round =>
    obtain ⟨rfl, rfl, rfl⟩ := hrel
    go_wp2
    refine bodyPost_ret (v := .tuple #[.int .i64 0, .int .i64 4]) (by simp [results, Try.results4, go_sem]) rfl ⟨rfl, Below.refl _ _⟩

set_option maxHeartbeats 1000000 in
theorem rexp_none (A A' : Option Addr) (c c' : Nat) (ev : Int) (h : 1 ≤ ev) (h' : ev ≤ 16777216) (w : World) :
    Calls Try.prog 6 #[.slice A 0 c, .slice A' 0 c', .int .i64 ev] w fun e' w' => e' = .returned (.tuple #[.int .i64 0, .int .i64 4]) ∧ Below w.heap.size w w' := by
  have hw : wi ev 1 16777216 = true := wi_true.2 ⟨h, h'⟩
  go_enter Try.func6, Try.ntmps6
  go_wp2_with (go_at_call 9; refine (within_any _ _ _ _).mono ?_; rintro e' w' ⟨rfl, rfl⟩)
  go_loop [8, 34] (fun _ i => i = .int .i64 0) (fun _ _ => 0)
  case atStart => exact rfl
  case round =>
    subst hrel
    go_wp2_with (go_at_call 9; refine (within_any _ _ _ _).mono ?_; rintro e' w' ⟨rfl, rfl⟩)
    refine bodyPost_ret (v := .tuple #[.int .i64 0, .int .i64 4]) (by simp [results, Try.results6, go_sem]) rfl ⟨rfl, Below.refl _ _⟩

def ExpIs (S T : List Int) (ev : Int) (w : World) (e : Ending) (w' : World) : Prop := e = .returned (.tuple #[.int .i64 (expV S T ev), .int .i64 (expE S T ev)]) ∧ Below w.heap.size w w'
theorem exp_goes {S T : List Int} {ev : Int} {w w' : World} {v e : Int} (h : expE S T ev = e ∧ expV S T ev = v) (hb : Below w.heap.size w w') : ExpIs S T ev w (.returned (.tuple #[.int .i64 v, .int .i64 e])) w' := by
  unfold ExpIs; rw [h.1, h.2]; exact ⟨rfl, hb⟩

set_option maxHeartbeats 2000000 in
theorem cexp_run (A A' : Option Addr) (c c' B n : Nat) (S T : List Int) (hn : S.length = n) (hm : T.length = n) (ev : Int) (h0 : n ≤ 64) (h1 : 1 ≤ n) (h : 1 ≤ ev) (h' : ev ≤ 16777216) (hc : n ≤ c) (hcm : c ≤ maxLen) (hc' : n ≤ c') (hcm' : c' ≤ maxLen) (w : World) (hr : Reads w B 1 A n (cellsI S)) (hr' : Reads w B 1 A' n (cellsI T)) :
    Calls Try.prog 4 #[.slice A n c, .slice A' n c', .int .i64 ev] w (ExpIs S T ev w) := by
  have HS := Lib.hid hn
  have HT := Lib.hid hm
  obtain ⟨g, off, rfl, hg, hcells⟩ := hr.addr (by omega)
  obtain ⟨g', off', rfl, hg', hcells'⟩ := hr'.addr (by omega)
  have HC := Lib.hid hcells
  have HC' := Lib.hid hcells'
  have hnz : ((n : Int) == 0) = false := by simp; omega
  have hnn : ((n : Int) != (n : Int)) = false := by simp
  have H1 := Lib.hid (wi_true.2 ⟨h, h'⟩)
  have HX := Lib.hid (show ¬ (64 < S.length ∨ 64 < T.length) by omega)
  clear hn hm hr hr' hcells hcells' hg hg'
  go_enter Try.func4, Try.ntmps4
  go_wp2
  go_loop [8, 9, 10, 11, 35] (fun s l _ _ i => ∃ k : Nat, k ≤ n ∧ i = .int .i64 k ∧ s = .int .i64 (sumC S T ev k) ∧ l = .int .i64 (lastS S k) ∧ ∀ j, j < k → GoodC S T j) (fun _ _ _ _ i => n - (intOf i).toNat)
  case atStart => exact ⟨0, Nat.zero_le _, rfl, rfl, rfl, fun j hj => by omega⟩
  case round =>
    obtain ⟨k, hk, rfl, rfl, rfl, hrel⟩ := hrel
    have HG := Lib.hid hrel
    obtain ⟨s0, s1⟩ := sumC_bd S T ev h h' k (by omega) hrel k (Nat.le_refl _)
    obtain ⟨l0, l1, l2⟩ := lastS_bd S T k hrel k (Nat.le_refl _)
    clear hrel l2
    have HSU := Lib.hid (show sumC S T ev (k + 1) = sumC S T ev k + (gI T k - ev * gI S k) from rfl)
    have HLA := Lib.hid (show lastS S (k + 1) = gI S k from rfl)
    by_cases hlt : k < n
    · have x0 := HC.out k _ (cellsI_at S k (by rw [HS.out]; exact hlt))
      have y0 := HC'.out k _ (cellsI_at T k (by rw [HT.out]; exact hlt))
      by_cases hgood : GoodC S T k
      · have HGD := Lib.hid hgood
        obtain ⟨g0, g1, g2, g3⟩ := hgood
        have e1 : S.getD k 0 = gI S k := rfl
        have e2 : T.getD k 0 = gI T k := rfl
        rw [e1] at x0
        rw [e2] at y0
        clear e1 e2
        obtain ⟨m0, m1⟩ := mul_bd h h' (x := gI S k) (by omega) (by omega)
        generalize gI S k = x at *
        generalize gI T k = y at *
        generalize sumC S T ev k = su at *
        generalize lastS S k = la at *
        go_wp2
        go_round
        case rel =>
          refine ⟨k + 1, hlt, by simp, by rw [HSU.out], by rw [HLA.out], fun j hj => ?_⟩
          by_cases e : j = k
          · subst e; exact HGD.out
          · exact HG.out j (by omega)
        case measure => simp [intOf]; omega
      · have HBD := Lib.hid (exp_bad (ev := ev) HX.out H1.out (HS.out.trans HT.out.symm) k (by rw [HS.out]; exact hlt) hgood)
        have hb : gI S k ≤ lastS S k ∨ 1000000 < gI S k ∨ gI T k < 0 ∨ 1073741824 < gI T k := by unfold GoodC at hgood; omega
        have e1 : S.getD k 0 = gI S k := rfl
        have e2 : T.getD k 0 = gI T k := rfl
        rw [e1] at x0
        rw [e2] at y0
        clear e1 e2 hgood
        generalize gI S k = x at *
        generalize gI T k = y at *
        generalize sumC S T ev k = su at *
        generalize lastS S k = la at *
        go_wp2
        all_goals first
          | (exfalso; omega)
          | (refine bodyPost_ret (v := .tuple #[.int .i64 0, .int .i64 1]) (by simp [results, Try.results4, go_sem]) rfl ?_; exact exp_goes HBD.out (Below.refl _ _))
    · have hkn : k = n := by omega
      have hnk : n ≤ k := by omega
      have HFI := Lib.hid (show sumC S T ev k / (n : Int) + ev * (lastS S k + 1) = expV S T ev ∧ expE S T ev = 0 by
        obtain ⟨a, b⟩ := exp_ok (ev := ev) HX.out H1.out (HS.out.trans HT.out.symm) (fun j hj => HG.out j (by rw [HS.out] at hj; omega)) (by rw [HS.out]; omega)
        rw [HS.out] at b
        rw [b, hkn]
        exact ⟨rfl, a⟩)
      clear hkn HSU HLA
      obtain ⟨t0, t1, t2, t3, t4, t5, t6⟩ := tdiv_parts (sumC S T ev k) n (by omega) (by omega) (by omega) (by omega)
      have T4 := Lib.hid t4
      have T5 := Lib.hid t5
      obtain ⟨m0, m1⟩ := mul_bd h h' (x := lastS S k + 1) (by omega) (by omega)
      clear t4 t5 t6
      generalize sumC S T ev k = su at *
      generalize lastS S k = la at *
      go_wp2
      · rename_i hneg
        refine bodyPost_ret (v := .tuple #[.int .i64 (su.tdiv n - 1 + ev * (la + 1)), .int .i64 0]) (by simp [results, Try.results4, go_sem]) rfl ?_
        exact exp_goes ⟨HFI.out.2, by rw [← HFI.out.1, T4.out (by omega)]⟩ (Below.refl _ _)
      · rename_i hneg
        refine bodyPost_ret (v := .tuple #[.int .i64 (su.tdiv n + ev * (la + 1)), .int .i64 0]) (by simp [results, Try.results4, go_sem]) rfl ?_
        exact exp_goes ⟨HFI.out.2, by rw [← HFI.out.1, T5.out (by omega)]⟩ (Below.refl _ _)
end Go.Proofs.Ytldfppcdklnmlae
