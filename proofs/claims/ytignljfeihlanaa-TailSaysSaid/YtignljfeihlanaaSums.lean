/- stat.Check and the reference's Sums; Val. -/
import Derived.Test.YtignljfeihlanaaSumsD
namespace Go.Proofs.Ytignljfeihlanaa
open Go.RowKit
set_option linter.unusedSimpArgs false
set_option linter.unusedVariables false

set_option maxHeartbeats 1000000 in
theorem rsums_bad (n s q : Int) (h : ¬ SumsArg n s q) (w : World) :
    Calls Try.prog 10 #[.agg #[.int .i64 n, .int .i64 s, .int .i64 q]] w fun e w' => e = .returned (.int .i64 1) ∧ Below w.heap.size w w' := by
  have h' : n < 0 ∨ 64 < n ∨ s < 0 ∨ n * 16777216 < s ∨ s * 16777216 < q ∨ q < s := by unfold SumsArg at h; omega
  clear h
  by_cases hn : n < 0 ∨ 64 < n
  · have HW : wi n 0 64 = false := wi_false.2 hn
    clear h' hn
    go_enter Try.func10, Try.ntmps10
    go_wp2_with (go_at_call 22; refine (within_any _ _ _ _).mono ?_; rintro e w' ⟨rfl, rfl⟩)
    go_ret
    exact ⟨rfl, (Below.refl _ _).alloc (Nat.le_refl _) _⟩
  · have HW : wi n 0 64 = true := wi_true.2 (by omega)
    have hn0 : 0 ≤ n := by omega
    have hn1 : n ≤ 64 := by omega
    by_cases hs : s < 0 ∨ n * 16777216 < s
    · have HS : wi s 0 (n * 16777216) = false := wi_false.2 hs
      clear h' hs hn
      go_enter Try.func10, Try.ntmps10
      go_wp2_with (go_at_call 22; refine (within_any _ _ _ _).mono ?_; rintro e w' ⟨rfl, rfl⟩)
      go_ret
      exact ⟨rfl, (Below.refl _ _).alloc (Nat.le_refl _) _⟩
    · have HS : wi s 0 (n * 16777216) = true := wi_true.2 (by omega)
      have HQ : wi q s (s * 16777216) = false := wi_false.2 (by omega)
      have s0 : 0 ≤ s := by omega
      have s1 : s ≤ 1073741824 := by omega
      clear h' hs hn
      go_enter Try.func10, Try.ntmps10
      go_wp2_with (go_at_call 22; refine (within_any _ _ _ _).mono ?_; rintro e w' ⟨rfl, rfl⟩)
      go_ret
      exact ⟨rfl, (Below.refl _ _).alloc (Nat.le_refl _) _⟩

set_option maxRecDepth 100000 in
set_option maxHeartbeats 1000000 in
theorem rsums_good (n s q : Int) (h : SumsArg n s q) (w : World) :
    Calls Try.prog 10 #[.agg #[.int .i64 n, .int .i64 s, .int .i64 q]] w fun e w' => e = .returned (.int .i64 (if n * q < s * s then 9 else 0)) ∧ Below w.heap.size w w' := by
  obtain ⟨b1, b2, b3, b4, b5, b6⟩ := h.bounds
  obtain ⟨h0, h1, h2, h3, h4, h5⟩ := h
  have HW : wi n 0 64 = true := wi_true.2 ⟨h0, h1⟩
  have HS : wi s 0 (n * 16777216) = true := wi_true.2 ⟨h2, h3⟩
  have HQ : wi q s (s * 16777216) = true := wi_true.2 ⟨h4, h5⟩
  by_cases hz : 0 < s
  · go_enter Try.func10, Try.ntmps10
    go_wp2_with (go_at_call 22; refine (within_any _ _ _ _).mono ?_; rintro e w' ⟨rfl, rfl⟩)
    all_goals first
      | (exfalso; omega)
      | (go_ret; exact ⟨ret_int (by simp [*] <;> omega), (Below.refl _ _).alloc (Nat.le_refl _) _⟩)
  · have hnlt : ¬ n * q < s * s := by
      have : s = 0 := by omega
      subst this
      omega
    rw [if_neg hnlt]
    clear hnlt b1 b2 b3 b4 b5 b6
    have s1 : s ≤ 1073741824 := by omega
    go_enter Try.func10, Try.ntmps10
    go_wp2_with (go_at_call 22; refine (within_any _ _ _ _).mono ?_; rintro e w' ⟨rfl, rfl⟩)
    all_goals first
      | (exfalso; omega)
      | (go_ret; exact ⟨rfl, (Below.refl _ _).alloc (Nat.le_refl _) _⟩)

theorem rsums_any (n s q : Int) (w : World) :
    Calls Try.prog 10 #[.agg #[.int .i64 n, .int .i64 s, .int .i64 q]] w fun e w' => e = .returned (.int .i64 (sumsE n s q)) ∧ Below w.heap.size w w' := by
  unfold sumsE
  by_cases h : SumsArg n s q
  · rw [if_pos h]; exact rsums_good n s q h w
  · rw [if_neg h]; exact rsums_bad n s q h w

theorem rsums_is (n s q e : Int) (h : sumsE n s q = e) (w : World) :
    Calls Try.prog 10 #[.agg #[.int .i64 n, .int .i64 s, .int .i64 q]] w fun e' w' => e' = .returned (.int .i64 e) ∧ Below w.heap.size w w' := by
  subst h; exact rsums_any n s q w
end Go.Proofs.Ytignljfeihlanaa
