/- stat.Check and the reference's Sums; Val. -/
import Derived.Test.YtmgkkbmcdnhdeaeWithin
namespace Go.Proofs.Ytmgkkbmcdnhdeae
open Go.RowKit
set_option linter.unusedSimpArgs false
set_option linter.unusedVariables false

def SumsArg (n s q : Int) : Prop := 0 ≤ n ∧ n ≤ 64 ∧ 0 ≤ s ∧ s ≤ n * 16777216 ∧ s ≤ q ∧ q ≤ s * 16777216
instance (n s q : Int) : Decidable (SumsArg n s q) := by unfold SumsArg; infer_instance
def sumsE (n s q : Int) : Int := if SumsArg n s q then (if n * q < s * s then 9 else 0) else 1

theorem SumsArg.bounds {n s q : Int} (h : SumsArg n s q) : s ≤ 1073741824 ∧ q ≤ 18014398509481984 ∧ 0 ≤ n * q ∧ n * q ≤ 1152921504606846976 ∧ 0 ≤ s * s ∧ s * s ≤ 1152921504606846976 := by
  obtain ⟨h0, h1, h2, h3, h4, h5⟩ := h
  have hs : s ≤ 1073741824 := by omega
  have hq : q ≤ 18014398509481984 := by omega
  have hq0 : 0 ≤ q := by omega
  refine ⟨hs, hq, Int.mul_nonneg h0 hq0, ?_, Int.mul_nonneg h2 h2, ?_⟩
  · have := Int.mul_le_mul h1 hq hq0 (by omega : (0 : Int) ≤ 64)
    omega
  · have := Int.mul_le_mul hs hs h2 (by omega : (0 : Int) ≤ 1073741824)
    omega

theorem wval_any (x : Int) (w : World) :
    Calls Try.prog 38 #[.int .i64 x] w fun e w' => e = .returned (.bool (wi x 0 16777216)) ∧ w = w' := by
  unfold wi
  go_enter Try.func38, Try.ntmps38
  go_wp2
  all_goals (go_ret; simp [*] <;> omega)






set_option maxHeartbeats 1000000 in
theorem stat_check_bad (n s q : Int) (h : ¬ SumsArg n s q) (w : World) :
    Calls Try.prog 31 #[.agg #[.int .i64 n, .int .i64 s, .int .i64 q]] w fun e w' => e = .returned (.int .i64 1) ∧ Below w.heap.size w w' := by
  have h' : n < 0 ∨ 64 < n ∨ s < 0 ∨ q < 0 ∨ n * 16777216 < s ∨ s * 16777216 < q ∨ q < s := by unfold SumsArg at h; omega
  clear h
  go_enter Try.func31, Try.ntmps31
  go_wp2
  all_goals first
    | (exfalso; omega)
    | (go_ret; exact ⟨rfl, (Below.refl _ _).alloc (Nat.le_refl _) _⟩)

set_option maxHeartbeats 1000000 in
theorem stat_check_good (n s q : Int) (h : SumsArg n s q) (w : World) :
    Calls Try.prog 31 #[.agg #[.int .i64 n, .int .i64 s, .int .i64 q]] w fun e w' => e = .returned (.int .i64 (if n * q < s * s then 9 else 0)) ∧ Below w.heap.size w w' := by
  obtain ⟨b1, b2, b3, b4, b5, b6⟩ := h.bounds
  obtain ⟨h0, h1, h2, h3, h4, h5⟩ := h
  go_enter Try.func31, Try.ntmps31
  go_wp2
  all_goals first
    | (exfalso; omega)
    | (go_ret; exact ⟨ret_int (by simp [*] <;> omega), (Below.refl _ _).alloc (Nat.le_refl _) _⟩)

theorem stat_check (n s q : Int) (w : World) :
    Calls Try.prog 31 #[.agg #[.int .i64 n, .int .i64 s, .int .i64 q]] w fun e w' => e = .returned (.int .i64 (sumsE n s q)) ∧ Below w.heap.size w w' := by
  unfold sumsE
  by_cases h : SumsArg n s q
  · rw [if_pos h]; exact stat_check_good n s q h w
  · rw [if_neg h]; exact stat_check_bad n s q h w

theorem sumsE_zero {n s q : Int} (h : sumsE n s q = 0) : SumsArg n s q ∧ ¬ n * q < s * s := by
  unfold sumsE at h
  split at h
  · split at h
    · simp at h
    · exact ⟨by assumption, by assumption⟩
  · simp at h
theorem check_is (n s q e : Int) (h : sumsE n s q = e) (w : World) :
    Calls Try.prog 31 #[.agg #[.int .i64 n, .int .i64 s, .int .i64 q]] w fun e' w' => e' = .returned (.int .i64 e) ∧ Below w.heap.size w w' := by
  subst h; exact stat_check n s q w
theorem wval_is (x : Int) (b : Bool) (h : wi x 0 16777216 = b) (w : World) :
    Calls Try.prog 38 #[.int .i64 x] w fun e w' => e = .returned (.bool b) ∧ w = w' := by
  subst h; exact wval_any x w



theorem sq_bounds {v : Int} (h : wi v 0 16777216 = true) : 0 ≤ v ∧ v ≤ 16777216 ∧ 0 ≤ v * v ∧ v * v ≤ 281474976710656 := by
  obtain ⟨h0, h1⟩ := wi_true.1 h
  refine ⟨h0, h1, Int.mul_nonneg h0 h0, ?_⟩
  have := Int.mul_le_mul h1 h1 h0 (by omega : (0 : Int) ≤ 16777216)
  omega
end Go.Proofs.Ytmgkkbmcdnhdeae
