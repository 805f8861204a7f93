/- prod.Times, all cases joined. -/
import Derived.Test.YtmgkkbmcdnhdeabDoorTimesA
import Derived.Test.YtmgkkbmcdnhdeabDoorTimesB
import Derived.Test.YtmgkkbmcdnhdeabDoorTimesC
namespace Go.Proofs.YtmgkkbmcdnhdeabDoor
open Go.RowKit
set_option linter.unusedSimpArgs false
set_option linter.unusedVariables false

set_option maxHeartbeats 2000000 in
theorem times_L (a b : Nat) (ha : a < 2 ^ 128) (hb : b < 2 ^ 128) (h1 : 0 < hiN a) (h2 : 0 < hiN b) (w : World) :
    Calls Tryd.prog 8 #[.agg #[.int .u64 (hiN a), .int .u64 (loN a)], .agg #[.int .u64 (hiN b), .int .u64 (loN b)]] w fun e w' =>
      e = .returned (.tuple #[.agg #[.int .u64 0, .int .u64 0], .int .i64 2]) ∧ Below w.heap.size w w' := by
  have E := Lib.hid ((((Env.start w).lay #[.int .u64 (hiN a), .int .u64 (loN a)] 24).lay #[.int .u64 (hiN b), .int .u64 (loN b)] 24).lay #[.int .u64 0, .int .u64 0] 24)
  obtain ⟨a1, a2⟩ := hiN_bd a ha
  obtain ⟨b1, b2⟩ := hiN_bd b hb
  generalize hiN a = ah at *
  generalize loN a = al at *
  generalize hiN b = bh at *
  generalize loN b = bl at *
  clear ha hb
  go_enter Tryd.func8, Tryd.ntmps8
  go_wp2
  refine bodyPost_ret (v := .tuple #[.agg #[.int .u64 0, .int .u64 0], .int .i64 2]) (by simp [results, Tryd.results8, go_sem]) rfl ⟨rfl, ?_⟩
  first | exact E.out.bel | exact (E.out.bel.setCell (by simp <;> omega) _).setCell (by simp <;> omega) _

theorem times_any (a b : Nat) (ha : a < 2 ^ 128) (hb : b < 2 ^ 128) (w : World) :
    Calls Tryd.prog 8 #[.agg #[.int .u64 (hiN a), .int .u64 (loN a)], .agg #[.int .u64 (hiN b), .int .u64 (loN b)]] w fun e w' =>
      e = .returned (.tuple #[.agg #[.int .u64 (hiN (fitN (a * b))), .int .u64 (loN (fitN (a * b)))], .int .i64 (fitE (a * b))]) ∧ Below w.heap.size w w' := by
  have h3 := (hiN_bd a ha).1
  by_cases h1 : 0 < hiN a
  · by_cases h2 : 0 < hiN b
    · have hA : 18446744073709551616 ≤ a := by unfold hiN at h1; omega
      have hB : 18446744073709551616 ≤ b := by unfold hiN at h2; omega
      have hge : 18446744073709551616 * 18446744073709551616 ≤ a * b := Nat.mul_le_mul hA hB
      have e1 : fitN (a * b) = 0 := if_neg (by omega)
      have e2 : fitE (a * b) = 2 := if_neg (by omega)
      rw [e1, e2]
      exact times_L a b ha hb h1 h2 w
    · exact times_A a b ha (by have := (hiN_bd b hb).1; unfold hiN at h2 this; omega) h1 w
  · by_cases h2 : 0 < hiN b
    · have := times_C a b hb (by unfold hiN at h1 h3; omega) h2 w
      rw [Nat.mul_comm b a] at this
      exact this
    · exact times_B a b ha (by have := (hiN_bd b hb).1; unfold hiN at h2 this; omega) (by omega) w
end Go.Proofs.YtmgkkbmcdnhdeabDoor
