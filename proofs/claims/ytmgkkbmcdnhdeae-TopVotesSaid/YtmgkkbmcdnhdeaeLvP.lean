/- Levels, plainly: halvings of (v + d d) / v, and the first time a level is reached. -/
import Derived.Test.YtmgkkbmcdnhdeaeRootP
import Derived.Test.YtmgkkbmcdnhdeaeSumFn
import Derived.Test.YtmgkkbmcdnhdeaeWin
namespace Go.Proofs.Ytmgkkbmcdnhdeae
namespace Lv
def sp (v : Nat) (d : Int) : Nat := if d ≤ 0 then 0 else Nat.log2 ((v + d.toNat * d.toNat) / v)
theorem log_halv (v d : Nat) (hv : 0 < v) : Rt.IsHalv (v + d * d) v (Nat.log2 ((v + d * d) / v) : Nat) := by
  have hq : 1 ≤ (v + d * d) / v := by rw [Nat.le_div_iff_mul_le hv]; omega
  have hne : (v + d * d) / v ≠ 0 := by omega
  refine .inr ⟨_, rfl, hv, ?_, ?_⟩
  · have h1 := (Nat.le_log2 hne).1 (Nat.le_refl _)
    have h2 := (Nat.le_div_iff_mul_le hv).1 h1
    rw [Nat.mul_comm]; exact h2
  · have h1 := (Nat.log2_lt hne).1 (Nat.lt_succ_self _)
    have h2 := (Nat.div_lt_iff_lt_mul hv).1 h1
    rw [Nat.mul_comm v]; exact h2
theorem sp_mono (v : Nat) {d e : Int} (h : d ≤ e) : sp v d ≤ sp v e := by
  unfold sp
  by_cases h0 : d ≤ 0
  · rw [if_pos h0]; exact Nat.zero_le _
  · rw [if_neg h0, if_neg (by omega)]
    have h1 : d.toNat ≤ e.toNat := by omega
    have h2 := Nat.mul_le_mul h1 h1
    have h3 : (v + d.toNat * d.toNat) / v ≤ (v + e.toNat * e.toNat) / v := Nat.div_le_div_right (by omega)
    by_cases hz : (v + d.toNat * d.toNat) / v = 0
    · rw [hz]; exact Nat.zero_le _
    · rw [Nat.le_log2 (fun h => hz (Nat.le_zero.1 (h ▸ h3)))]
      exact Nat.le_trans ((Nat.le_log2 hz).1 (Nat.le_refl _)) h3
theorem sp_pos (v : Nat) {d : Int} (h : 0 < d) : sp v d = Nat.log2 ((v + d.toNat * d.toNat) / v) := if_neg (by omega)
theorem sp_zero (v : Nat) {d : Int} (h : d ≤ 0) : sp v d = 0 := if_pos h
def lvF (v : Nat) (N S s : Int) : Nat := sp v (N * s - S)
theorem lvF_mono (v : Nat) {N : Int} (S : Int) (h : 0 ≤ N) {s t : Int} (hst : s ≤ t) : lvF v N S s ≤ lvF v N S t := by
  have := Int.mul_le_mul_of_nonneg_left hst h
  exact sp_mono v (by omega)
def FirstAt (f : Int → Nat) (q t : Int) : Prop := 0 ≤ t ∧ q ≤ f t ∧ (t = 0 ∨ (f (t - 1) : Int) < q)
theorem first_uniq {f : Int → Nat} (hf : ∀ s t, s ≤ t → f s ≤ f t) {q t u : Int} (h1 : FirstAt f q t) (h2 : FirstAt f q u) : t = u := by
  obtain ⟨a0, a1, a2⟩ := h1
  obtain ⟨b0, b1, b2⟩ := h2
  rcases Int.lt_trichotomy t u with h | h | h
  · rcases b2 with rfl | b2
    · omega
    · have := hf t (u - 1) (by omega); omega
  · exact h
  · rcases a2 with rfl | a2
    · omega
    · have := hf u (t - 1) (by omega); omega
theorem first_exists {f : Int → Nat} {q : Int} : ∀ (n : Nat), q ≤ f n → ∃ t, FirstAt f q t ∧ t ≤ n
  | 0, h => ⟨0, ⟨by omega, h, .inl rfl⟩, by omega⟩
  | n + 1, h => by
    by_cases h1 : q ≤ f n
    · obtain ⟨t, a, b⟩ := first_exists n h1
      exact ⟨t, a, by omega⟩
    · exact ⟨(n + 1 : Nat), ⟨by omega, h, .inr (by rw [show ((n + 1 : Nat) : Int) - 1 = n by omega]; omega)⟩, by omega⟩
end Lv
theorem dev_nn (x : Int) (l : List Int) : 0 ≤ (l.length : Int) * (x * x) - 2 * (x * s1 l) + s2 l := by
  induction l with
  | nil => simp [s1, s2]
  | cons y l ih =>
    have h : 0 ≤ (x - y) * (x - y) := by
      rcases Int.le_total 0 (x - y) with h | h
      · exact Int.mul_nonneg h h
      · have := Int.mul_nonneg (show 0 ≤ -(x - y) by omega) (show 0 ≤ -(x - y) by omega)
        rwa [Int.neg_mul_neg] at this
    rw [Int.sub_mul, Int.mul_sub, Int.mul_sub, Int.mul_comm y x] at h
    simp only [s1, s2, List.length_cons]
    rw [Int.mul_add x, show ((l.length + 1 : Nat) : Int) = l.length + 1 by simp, Int.add_mul]
    omega
theorem cauchy (l : List Int) : s1 l * s1 l ≤ (l.length : Int) * s2 l := by
  induction l with
  | nil => simp [s1, s2]
  | cons y l ih =>
    have h := dev_nn y l
    simp only [s1, s2, List.length_cons]
    have e1 : ((l.length : Int) + 1) * (s2 l + y * y) = l.length * s2 l + l.length * (y * y) + (s2 l + y * y) := by rw [Int.add_mul, Int.mul_add, Int.one_mul]
    have e2 : (s1 l + y) * (s1 l + y) = s1 l * s1 l + y * s1 l + (y * s1 l + y * y) := by rw [Int.mul_add, Int.add_mul, Int.add_mul, Int.mul_comm (s1 l) y]
    rw [show ((l.length + 1 : Nat) : Int) = l.length + 1 by simp, e1, e2]
    omega
theorem sums_in (l : List Int) (h : l.any offI = false) : s1 l ≤ s2 l ∧ s2 l ≤ s1 l * 16777216 := by
  induction l with
  | nil => simp [s1, s2]
  | cons x l ih =>
    simp only [List.any_cons, Bool.or_eq_false_iff] at h
    obtain ⟨i0, i1⟩ := ih h.2
    have hx : wi x 0 16777216 = true := by have := h.1; unfold offI at this; simpa using this
    obtain ⟨x0, x1⟩ := wi_true.1 hx
    have y1 := Int.mul_le_mul_of_nonneg_left x1 x0
    have y0 : x ≤ x * x := by
      by_cases hz : x = 0
      · subst hz; simp
      · have := Int.mul_le_mul_of_nonneg_left (show 1 ≤ x by omega) x0
        omega
    simp only [s1, s2]
    omega
theorem sums_ok (l : List Int) (h : listE l = 0) : sumsE l.length (s1 l) (s2 l) = 0 := by
  obtain ⟨h64, ho⟩ := listE_zero h
  obtain ⟨a, b, c, d⟩ := s_bd l ho
  obtain ⟨e, f⟩ := sums_in l ho
  have g := cauchy l
  unfold sumsE
  rw [if_pos ⟨by omega, by omega, a, b, e, f⟩, if_neg (by omega)]
/-- the spread of a window, at least that of least -/
def lvM (N least : Int) : Int := N * least * (N * least)
def lvV (N S Q least : Int) : Int := if N * Q - S * S < lvM N least then lvM N least else N * Q - S * S
theorem lvM_eq (N least : Int) : N * N * least * least = lvM N least := by
  unfold lvM
  rw [Int.mul_assoc N N least, Int.mul_assoc, Int.mul_assoc N least (N * least), Int.mul_left_comm least N least, Int.mul_assoc N least least]
theorem lv_bd {N S Q least : Int} (hs : sumsE N S Q = 0) (hN : 1 ≤ N) (h0 : 1 ≤ least) (h1 : least ≤ 16777216) :
    N ≤ 64 ∧ 0 ≤ S ∧ S ≤ 1073741824 ∧ 0 ≤ N * Q - S * S ∧ N * Q - S * S ≤ 1152921504606846976 ∧ 1 ≤ lvM N least ∧ lvM N least ≤ 1152921504606846976 ∧ 1 ≤ lvV N S Q least ∧ lvV N S Q least ≤ 1152921504606846976 ∧
    N * least ≤ 1073741824 ∧ 1 ≤ N * least ∧ N * N ≤ 4096 ∧ 1 ≤ N * N ∧ N * N * least ≤ 68719476736 ∧ 1 ≤ N * N * least ∧ 0 ≤ N * Q ∧ N * Q ≤ 1152921504606846976 ∧ 0 ≤ S * S ∧ S * S ≤ 1152921504606846976 := by
  obtain ⟨⟨b0, b1, b2, b3, b4, b5⟩, b6⟩ := sumsE_zero hs
  obtain ⟨c1, c2, c3, c4, c5, c6⟩ := SumsArg.bounds (n := N) (s := S) (q := Q) ⟨b0, b1, b2, b3, b4, b5⟩
  have e1 := Int.mul_le_mul b1 h1 (by omega) (by omega : (0 : Int) ≤ 64)
  have e2 := Int.mul_le_mul hN h0 (by omega) (by omega : (0 : Int) ≤ N)
  have e3 : lvM N least ≤ 1073741824 * 1073741824 := Int.mul_le_mul e1 e1 (by omega) (by omega)
  have e4 : 1 * 1 ≤ lvM N least := Int.mul_le_mul (by omega) (by omega) (by omega) (by omega)
  have e5 := Int.mul_le_mul b1 b1 b0 (by omega : (0 : Int) ≤ 64)
  have e6 := Int.mul_le_mul hN hN (by omega) b0
  have e7 := Int.mul_le_mul e5 h1 (by omega) (by omega)
  have e8 := Int.mul_le_mul e6 h0 (by omega) (by omega)
  have e9 : 1 ≤ lvV N S Q least ∧ lvV N S Q least ≤ 1152921504606846976 := by unfold lvV; split <;> omega
  refine ⟨b1, b2, c1, by omega, by omega, by omega, by omega, e9.1, e9.2, by omega, by omega, by omega, by omega, by omega, by omega, c3, c4, c5, c6⟩
def lookE (cap least : Int) (l : List Int) : Int := if winE cap l = 0 then (if wi least 1 16777216 = true then (if l.length = 0 then 4 else 0) else 1) else winE cap l
theorem lookE_zero {cap least : Int} {l : List Int} (h : lookE cap least l = 0) : winE cap l = 0 ∧ 1 ≤ least ∧ least ≤ 16777216 ∧ 1 ≤ l.length := by
  unfold lookE at h
  split at h
  · rename_i h1
    split at h
    · rename_i h2
      obtain ⟨a, b⟩ := wi_true.1 h2
      split at h
      · simp at h
      · exact ⟨h1, a, b, by omega⟩
    · simp at h
  · contradiction
end Go.Proofs.Ytmgkkbmcdnhdeae
