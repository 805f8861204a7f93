/- Two small helpers of the laws of the whole: a number within bounds, and something that is so. -/
import Derived.Test.YtmgkkbmcdnhdeaeWAdd
namespace Go.Proofs.Ytmgkkbmcdnhdeae
open Go.RowKit Go.Lib
set_option linter.unusedSimpArgs false
set_option linter.unusedVariables false

/-- a number from 0 to n-1 -/
def wthn (k n : Int) : Int := k % 18446744073709551616 % n
theorem wthn_bd (k : Int) {n : Int} (h : 1 ≤ n) : 0 ≤ wthn k n ∧ wthn k n < n := ⟨Int.emod_nonneg _ (by omega), Int.emod_lt_of_pos _ (by omega)⟩
theorem kwithin_any (k n : Int) (hn : 1 ≤ n) (hm : n ≤ 9223372036854775807) (w : World) :
    Calls Try.prog 5 #[.int .i64 k, .int .i64 n] w fun e w' => e = .returned (.int .i64 (wthn k n)) ∧ w = w' := by
  go_enter Try.func5, Try.ntmps5
  have hb := wthn_bd k hn
  have hq : wrap64 ((IntKind.u64.wrap k).tmod n) = wthn k n := by
    have e : (IntKind.u64.wrap k).tmod n = wthn k n := by
      rw [IntKind.wrap_u64, Int.tmod_eq_emod_of_nonneg (by omega)]
      rfl
    rw [e]
    unfold wrap64
    omega
  clear hb
  go_wp2
  go_ret
  exact ⟨ret_int hq, rfl⟩

theorem begun_true (w : World) : Calls Try.prog 4 #[] w fun e w' => e = .returned (.bool true) ∧ Below w.heap.size w w' := by
  have HA := Lib.hid (wide_add_ok 0 2 0 3 2 3 ⟨by decide, by decide, by decide⟩ ⟨by decide, by decide, by decide⟩ (by decide))
  go_enter Try.func4, Try.ntmps4
  go_wp2_with fail
  refine (HA.out _).mono ?_
  rintro e' w1 ⟨rfl, hb1⟩
  have E1 := Lib.hid (((Env.start w).below hb1).lay #[.int .u64 (hiN (2 + 3)), .int .u64 (loN (2 + 3))] 37)
  have e1 : hiN (2 + 3) = 0 := by decide
  have e2 : loN (2 + 3) = 5 := by decide
  rw [e1, e2] at E1
  go_wp2
  go_ret
  exact ⟨rfl, E1.out.bel⟩
end Go.Proofs.Ytmgkkbmcdnhdeae
