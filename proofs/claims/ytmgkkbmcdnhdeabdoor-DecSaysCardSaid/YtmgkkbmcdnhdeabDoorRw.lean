/- The reference's Wide. -/
import Derived.Test.YtmgkkbmcdnhdeabDoorBase
namespace Go.Proofs.YtmgkkbmcdnhdeabDoor
open Go.RowKit
set_option linter.unusedSimpArgs false
set_option linter.unusedVariables false

theorem wide_any (n : Int) (h0 : 0 ≤ n) (h1 : n ≤ 9223372036854775807) (w : World) :
    Calls Tryd.prog 14 #[.int .i64 n] w fun e w' => e = .returned (.agg #[.int .u64 (hiN n.toNat), .int .u64 (loN n.toNat)]) ∧ Below w.heap.size w w' := by
  have e1 : hiN n.toNat = 0 := by unfold hiN; omega
  have e2 : loN n.toNat = n := by unfold loN; omega
  rw [e1, e2]
  clear e1 e2
  go_enter Tryd.func14, Tryd.ntmps14
  go_wp2
  refine bodyPost_ret (v := .agg #[.int .u64 0, .int .u64 n]) (by simp [results, Tryd.results14, go_sem]) rfl ⟨rfl, ?_⟩
  exact (Below.refl _ _).alloc (Nat.le_refl _) _

end Go.Proofs.YtmgkkbmcdnhdeabDoor
