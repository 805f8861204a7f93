/- stat.Of and the reference's Of, walked. (with what it needs) -/
import Derived.Test.YthimchhnhhchkaaGreatDoorM04
import Derived.BigRegion
import Derived.Test.YthimchhnhhchkaaGreatDoorM01
namespace Go.Proofs.YthimchhnhhchkaaGreatDoor
open Go.RowKit
set_option linter.unusedSimpArgs false
set_option linter.unusedVariables false

set_option maxRecDepth 100000 in
set_option maxHeartbeats 1000000 in
theorem sof_err (A : Option Addr) (c B n : Nat) (l : List Int) (hn : l.length = n) (e : Int) (he : listE l = e) (hz : e ≠ 0) (hc : n ≤ c) (hm : c ≤ maxLen) (w : World) (hr : Reads w B 1 A n (cellsI l)) (hB : B ≤ w.heap.size) :
    Calls Tryz.prog 100 #[.slice A n c] w fun e' w' => e' = .returned (.tuple #[.agg #[.int .i64 0, .int .i64 0, .int .i64 0], .int .i64 e]) ∧ Below w.heap.size w w' := by
  have HN := Lib.hid hn
  have HE := Lib.hid he
  have HC := Lib.hid ((hr.alloc hB (.cells #[.int .i64 0, .int .i64 0, .int .i64 0] 87)))
  have E := Lib.hid ((Env.start w).lay #[.int .i64 0, .int .i64 0, .int .i64 0] 87)
  clear hn he hr
  go_enter Tryz.func100, Tryz.ntmps100
  go_wp2_with fail
  refine (wlist_is _ _ _ l n HN.out _ HE.out (by omega) _ HC.out).mono ?_
  rintro e' w' ⟨rfl, rfl⟩
  go_wp2
  refine bodyPost_ret (v := .tuple #[.agg #[.int .i64 0, .int .i64 0, .int .i64 0], .int .i64 e]) (by simp [results, Tryz.results100, go_sem]) rfl ⟨rfl, ?_⟩
  first | exact E.out.bel | exact ((E.out.bel.setCell (by simp <;> omega) _).setCell (by simp <;> omega) _).setCell (by simp <;> omega) _

set_option maxRecDepth 100000 in
set_option maxHeartbeats 1000000 in
theorem sof_ok (A : Option Addr) (c B n : Nat) (l : List Int) (hn : l.length = n) (he : listE l = 0) (hc : n ≤ c) (hm : c ≤ maxLen) (w : World) (hr : Reads w B 1 A n (cellsI l)) (hB : B ≤ w.heap.size) :
    Calls Tryz.prog 100 #[.slice A n c] w fun e' w' => e' = .returned (.tuple #[.agg #[.int .i64 n, .int .i64 (t1 l n), .int .i64 (t2 l n)], .int .i64 0]) ∧ Below w.heap.size w w' := by
  have HN := Lib.hid hn
  have HE := Lib.hid he
  have h64 : n ≤ 64 := by rw [← hn]; exact (listE_zero he).1
  have HC := Lib.hid ((hr.alloc hB (.cells #[.int .i64 0, .int .i64 0, .int .i64 0] 87)))
  have HR := Lib.hid hr
  have HV := Lib.hid (fun j (hj : j < n) => vals_of (listE_zero he).2 j (by omega))
  have HT := Lib.hid (fun j => t_bd l j (listE_zero he).2 (listE_zero he).1)
  have HS := Lib.hid (fun j (hj : j < n) => t_succ l j (by omega))
  have E := Lib.hid ((Env.start w).lay #[.int .i64 0, .int .i64 0, .int .i64 0] 87)
  have HBB := Lib.hid hB
  clear hn he hr hB
  go_enter Tryz.func100, Tryz.ntmps100
  go_wp2_with fail
  refine (wlist_is _ _ _ l n HN.out _ HE.out (by omega) _ HC.out).mono ?_
  rintro e' w' ⟨rfl, rfl⟩
  go_wp2
  go_loopw [7, 19] (fun v i wr => ∃ k : Nat, k ≤ n ∧ i = .int .i64 k ∧ Env w wr [(w.heap.size + 1, 87, #[.int .i64 n, .int .i64 (t1 l k), .int .i64 (t2 l k)]), (w.heap.size, 87, #[.int .i64 0, .int .i64 0, .int .i64 0])]) (fun _ i _ => n - (intOf i).toNat)
  case atStart =>
    have e0 : t1 l 0 = 0 ∧ t2 l 0 = 0 := ⟨rfl, rfl⟩
    refine ⟨0, Nat.zero_le _, rfl, ?_⟩
    rw [e0.1, e0.2]
    have := E.out.lay #[.int .i64 n, .int .i64 0, .int .i64 0] 87
    simpa using this
  case round =>
    obtain ⟨k, hk, rfl, hrel⟩ := hrel
    have F := Lib.hid hrel
    have RL := Lib.hid (HR.out.below hrel.bel HBB.out)
    clear hrel
    obtain ⟨y0, y1, y2, y3⟩ := HT.out k
    have p0 := F.out.hd.lt
    have a0 := F.out.hd.cell 0
    have a1 := F.out.hd.cell 1
    have a2 := F.out.hd.cell 2
    have f1 := F.out.hd.frozen 1
    have f2 := F.out.hd.frozen 2
    have b0 := F.out.tl.hd.cell 0
    have b1 := F.out.tl.hd.cell 1
    have b2 := F.out.tl.hd.cell 2
    have g0 := F.out.tl.hd.frozen 0
    have g1 := F.out.tl.hd.frozen 1
    have g2 := F.out.tl.hd.frozen 2
    simp at a0 a1 a2 b0 b1 b2
    by_cases hlt : k < n
    · obtain ⟨b, off, rfl, hb, hcells⟩ := RL.out.addr (by omega)
      have hcell := hcells k _ (cellsI_at l k (by rw [HN.out]; exact hlt))
      obtain ⟨x0, x1⟩ := HV.out k hlt
      have HSK := Lib.hid (HS.out k hlt)
      have z0 := Int.mul_nonneg x0 x0
      have z1 := Int.mul_le_mul x1 x1 x0 (by omega : (0 : Int) ≤ 16777216)
      clear hcells
      have HB := Lib.hid hb
      clear hb
      generalize hx : l.getD k 0 = x at *
      clear hx
      generalize hs : t1 l k = s at *
      generalize hq : t2 l k = q at *
      clear hs hq
      go_wp2
      go_roundw
      case rel =>
        refine ⟨k + 1, hlt, by simp, ?_⟩
        rw [HSK.out.1, HSK.out.2]
        have := (F.out.set_hd (by simp) 1 (.int .i64 (s + x))).set_hd (by simp) 2 (.int .i64 (q + x * x))
        simpa using this
      case measure => simp [intOf]; omega
    · have hkn : k = n := by omega
      have HK := Lib.hid hkn
      have hnk : n ≤ k := by omega
      clear hkn
      rw [← HK.out]
      generalize hs : t1 l k = s at *
      generalize hq : t2 l k = q at *
      have HS1 := Lib.hid hs
      have HQ1 := Lib.hid hq
      clear hs hq
      go_wp2
      refine bodyPost_ret (v := .tuple #[.agg #[.int .i64 k, .int .i64 s, .int .i64 q], .int .i64 0]) (by simp [results, Tryz.results100, go_sem, HK.out, *]) rfl ⟨by rw [← HK.out, HS1.out, HQ1.out], ?_⟩
      exact ((F.out.bel.setCell (by simp <;> omega) _).setCell (by simp <;> omega) _).setCell (by simp <;> omega) _
end Go.Proofs.YthimchhnhhchkaaGreatDoor

namespace Go.Proofs.YthimchhnhhchkaaGreatDoor
namespace Lv
def sp (v : Nat) (d : Int) : Nat := if d ≤ 0 then 0 else Nat.log2 ((v + d.toNat * d.toNat) / v)
theorem log_halv (v d : Nat) (hv : 0 < v) : Rt.IsHalv (v + d * d) v (Nat.log2 ((v + d * d) / v) : Nat) := by
  have hq : 1 ≤ (v + d * d) / v := by rw [Nat.le_div_iff_mul_le hv]; omega
  have hne : (v + d * d) / v ≠ 0 := by omega
  refine .inr ⟨_, rfl, hv, ?_, ?_⟩
  · have h1 := (Nat.le_log2 hne).1 (Nat.le_refl _)
    have h2 := (Nat.le_div_iff_mul_le hv).1 h1
    rw [Nat.mul_comm]; exact h2
  · have h1 := (Nat.log2_lt hne).1 (Nat.lt_succ_self _)
    have h2 := (Nat.div_lt_iff_lt_mul hv).1 h1
    rw [Nat.mul_comm v]; exact h2
theorem sp_mono (v : Nat) {d e : Int} (h : d ≤ e) : sp v d ≤ sp v e := by
  unfold sp
  by_cases h0 : d ≤ 0
  · rw [if_pos h0]; exact Nat.zero_le _
  · rw [if_neg h0, if_neg (by omega)]
    have h1 : d.toNat ≤ e.toNat := by omega
    have h2 := Nat.mul_le_mul h1 h1
    have h3 : (v + d.toNat * d.toNat) / v ≤ (v + e.toNat * e.toNat) / v := Nat.div_le_div_right (by omega)
    by_cases hz : (v + d.toNat * d.toNat) / v = 0
    · rw [hz]; exact Nat.zero_le _
    · rw [Nat.le_log2 (fun h => hz (Nat.le_zero.1 (h ▸ h3)))]
      exact Nat.le_trans ((Nat.le_log2 hz).1 (Nat.le_refl _)) h3
theorem sp_pos (v : Nat) {d : Int} (h : 0 < d) : sp v d = Nat.log2 ((v + d.toNat * d.toNat) / v) := if_neg (by omega)
theorem sp_zero (v : Nat) {d : Int} (h : d ≤ 0) : sp v d = 0 := if_pos h
def lvF (v : Nat) (N S s : Int) : Nat := sp v (N * s - S)
theorem lvF_mono (v : Nat) {N : Int} (S : Int) (h : 0 ≤ N) {s t : Int} (hst : s ≤ t) : lvF v N S s ≤ lvF v N S t := by
  have := Int.mul_le_mul_of_nonneg_left hst h
  exact sp_mono v (by omega)
def FirstAt (f : Int → Nat) (q t : Int) : Prop := 0 ≤ t ∧ q ≤ f t ∧ (t = 0 ∨ (f (t - 1) : Int) < q)
theorem first_uniq {f : Int → Nat} (hf : ∀ s t, s ≤ t → f s ≤ f t) {q t u : Int} (h1 : FirstAt f q t) (h2 : FirstAt f q u) : t = u := by
  obtain ⟨a0, a1, a2⟩ := h1
  obtain ⟨b0, b1, b2⟩ := h2
  rcases Int.lt_trichotomy t u with h | h | h
  · rcases b2 with rfl | b2
    · omega
    · have := hf t (u - 1) (by omega); omega
  · exact h
  · rcases a2 with rfl | a2
    · omega
    · have := hf u (t - 1) (by omega); omega
theorem first_exists {f : Int → Nat} {q : Int} : ∀ (n : Nat), q ≤ f n → ∃ t, FirstAt f q t ∧ t ≤ n
  | 0, h => ⟨0, ⟨by omega, h, .inl rfl⟩, by omega⟩
  | n + 1, h => by
    by_cases h1 : q ≤ f n
    · obtain ⟨t, a, b⟩ := first_exists n h1
      exact ⟨t, a, by omega⟩
    · exact ⟨(n + 1 : Nat), ⟨by omega, h, .inr (by rw [show ((n + 1 : Nat) : Int) - 1 = n by omega]; omega)⟩, by omega⟩
end Lv
theorem dev_nn (x : Int) (l : List Int) : 0 ≤ (l.length : Int) * (x * x) - 2 * (x * s1 l) + s2 l := by
  induction l with
  | nil => simp [s1, s2]
  | cons y l ih =>
    have h : 0 ≤ (x - y) * (x - y) := by
      rcases Int.le_total 0 (x - y) with h | h
      · exact Int.mul_nonneg h h
      · have := Int.mul_nonneg (show 0 ≤ -(x - y) by omega) (show 0 ≤ -(x - y) by omega)
        rwa [Int.neg_mul_neg] at this
    rw [Int.sub_mul, Int.mul_sub, Int.mul_sub, Int.mul_comm y x] at h
    simp only [s1, s2, List.length_cons]
    rw [Int.mul_add x, show ((l.length + 1 : Nat) : Int) = l.length + 1 by simp, Int.add_mul]
    omega
theorem cauchy (l : List Int) : s1 l * s1 l ≤ (l.length : Int) * s2 l := by
  induction l with
  | nil => simp [s1, s2]
  | cons y l ih =>
    have h := dev_nn y l
    simp only [s1, s2, List.length_cons]
    have e1 : ((l.length : Int) + 1) * (s2 l + y * y) = l.length * s2 l + l.length * (y * y) + (s2 l + y * y) := by rw [Int.add_mul, Int.mul_add, Int.one_mul]
    have e2 : (s1 l + y) * (s1 l + y) = s1 l * s1 l + y * s1 l + (y * s1 l + y * y) := by rw [Int.mul_add, Int.add_mul, Int.add_mul, Int.mul_comm (s1 l) y]
    rw [show ((l.length + 1 : Nat) : Int) = l.length + 1 by simp, e1, e2]
    omega
theorem sums_in (l : List Int) (h : l.any offI = false) : s1 l ≤ s2 l ∧ s2 l ≤ s1 l * 16777216 := by
  induction l with
  | nil => simp [s1, s2]
  | cons x l ih =>
    simp only [List.any_cons, Bool.or_eq_false_iff] at h
    obtain ⟨i0, i1⟩ := ih h.2
    have hx : wi x 0 16777216 = true := by have := h.1; unfold offI at this; simpa using this
    obtain ⟨x0, x1⟩ := wi_true.1 hx
    have y1 := Int.mul_le_mul_of_nonneg_left x1 x0
    have y0 : x ≤ x * x := by
      by_cases hz : x = 0
      · subst hz; simp
      · have := Int.mul_le_mul_of_nonneg_left (show 1 ≤ x by omega) x0
        omega
    simp only [s1, s2]
    omega
theorem sums_ok (l : List Int) (h : listE l = 0) : sumsE l.length (s1 l) (s2 l) = 0 := by
  obtain ⟨h64, ho⟩ := listE_zero h
  obtain ⟨a, b, c, d⟩ := s_bd l ho
  obtain ⟨e, f⟩ := sums_in l ho
  have g := cauchy l
  unfold sumsE
  rw [if_pos ⟨by omega, by omega, a, b, e, f⟩, if_neg (by omega)]
/-- the spread of a window, at least that of least -/
def lvM (N least : Int) : Int := N * least * (N * least)
def lvV (N S Q least : Int) : Int := if N * Q - S * S < lvM N least then lvM N least else N * Q - S * S
theorem lvM_eq (N least : Int) : N * N * least * least = lvM N least := by
  unfold lvM
  rw [Int.mul_assoc N N least, Int.mul_assoc, Int.mul_assoc N least (N * least), Int.mul_left_comm least N least, Int.mul_assoc N least least]
theorem lv_bd {N S Q least : Int} (hs : sumsE N S Q = 0) (hN : 1 ≤ N) (h0 : 1 ≤ least) (h1 : least ≤ 16777216) :
    N ≤ 64 ∧ 0 ≤ S ∧ S ≤ 1073741824 ∧ 0 ≤ N * Q - S * S ∧ N * Q - S * S ≤ 1152921504606846976 ∧ 1 ≤ lvM N least ∧ lvM N least ≤ 1152921504606846976 ∧ 1 ≤ lvV N S Q least ∧ lvV N S Q least ≤ 1152921504606846976 ∧
    N * least ≤ 1073741824 ∧ 1 ≤ N * least ∧ N * N ≤ 4096 ∧ 1 ≤ N * N ∧ N * N * least ≤ 68719476736 ∧ 1 ≤ N * N * least ∧ 0 ≤ N * Q ∧ N * Q ≤ 1152921504606846976 ∧ 0 ≤ S * S ∧ S * S ≤ 1152921504606846976 := by
  obtain ⟨⟨b0, b1, b2, b3, b4, b5⟩, b6⟩ := sumsE_zero hs
  obtain ⟨c1, c2, c3, c4, c5, c6⟩ := SumsArg.bounds (n := N) (s := S) (q := Q) ⟨b0, b1, b2, b3, b4, b5⟩
  have e1 := Int.mul_le_mul b1 h1 (by omega) (by omega : (0 : Int) ≤ 64)
  have e2 := Int.mul_le_mul hN h0 (by omega) (by omega : (0 : Int) ≤ N)
  have e3 : lvM N least ≤ 1073741824 * 1073741824 := Int.mul_le_mul e1 e1 (by omega) (by omega)
  have e4 : 1 * 1 ≤ lvM N least := Int.mul_le_mul (by omega) (by omega) (by omega) (by omega)
  have e5 := Int.mul_le_mul b1 b1 b0 (by omega : (0 : Int) ≤ 64)
  have e6 := Int.mul_le_mul hN hN (by omega) b0
  have e7 := Int.mul_le_mul e5 h1 (by omega) (by omega)
  have e8 := Int.mul_le_mul e6 h0 (by omega) (by omega)
  have e9 : 1 ≤ lvV N S Q least ∧ lvV N S Q least ≤ 1152921504606846976 := by unfold lvV; split <;> omega
  refine ⟨b1, b2, c1, by omega, by omega, by omega, by omega, e9.1, e9.2, by omega, by omega, by omega, by omega, by omega, by omega, c3, c4, c5, c6⟩
def lookE (cap least : Int) (l : List Int) : Int := if winE cap l = 0 then (if wi least 1 16777216 = true then (if l.length = 0 then 4 else 0) else 1) else winE cap l
theorem lookE_zero {cap least : Int} {l : List Int} (h : lookE cap least l = 0) : winE cap l = 0 ∧ 1 ≤ least ∧ least ≤ 16777216 ∧ 1 ≤ l.length := by
  unfold lookE at h
  split at h
  · rename_i h1
    split at h
    · rename_i h2
      obtain ⟨a, b⟩ := wi_true.1 h2
      split at h
      · simp at h
      · exact ⟨h1, a, b, by omega⟩
    · simp at h
  · contradiction
end Go.Proofs.YthimchhnhhchkaaGreatDoor

namespace Go.Proofs.YthimchhnhhchkaaGreatDoor
open Go.RowKit
set_option linter.unusedSimpArgs false
set_option linter.unusedVariables false

theorem s_small (l : List Int) (h : l.any offI = false) (h64 : l.length ≤ 64) : 0 ≤ s1 l ∧ s1 l ≤ 1073741824 ∧ 0 ≤ s2 l ∧ s2 l ≤ 18014398509481984 := by
  obtain ⟨a, b, c, d⟩ := s_bd l h
  refine ⟨a, by omega, c, by omega⟩






















































































































end Go.Proofs.YthimchhnhhchkaaGreatDoor
