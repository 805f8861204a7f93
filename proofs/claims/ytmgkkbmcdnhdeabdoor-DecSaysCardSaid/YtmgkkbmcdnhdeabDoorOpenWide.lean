/- How the arguments of this seat's laws are opened. -/
import Derived.Test.YtmgkkbmcdnhdeabDoorBase
import Derived.ProofKit
import Derived.OpenShut
import Derived.Lib.SmallJoins
namespace Go.Proofs.YtmgkkbmcdnhdeabDoor
open Go.RowKit Go.ChangeShapes Go.WideShapes Go.Joins
set_option linter.unusedSimpArgs false
set_option linter.unusedVariables false

theorem words_of (h l : Int) (h0 : 0 ≤ h) (h1 : h ≤ 18446744073709551615) (l0 : 0 ≤ l) (l1 : l ≤ 18446744073709551615) : ∃ n, n < 2 ^ 128 ∧ h = hiN n ∧ l = loN n :=
  ⟨(h * 18446744073709551616 + l).toNat, by omega, by unfold hiN; omega, by unfold loN; omega⟩

section
variable {H : Type} {enc : TypeId × Value → H} {w : World} {base b0 : Nat} {spare : Nat → Bool} {held : Bool} {r : Reach} {v : Value} {d : DataW H} {p : List MemPlace}
set_option maxRecDepth 100000 in
theorem open_wide (hv : Value.okWide Tryd.prog w r b0 24 v) (h : DataW.Trod enc Tryd.prog w base spare held 24 v d p) :
    ∃ n, n < 2 ^ 128 ∧ v = .agg #[.int .u64 (hiN n), .int .u64 (loN n)] := by
  obtain ⟨c0, c1, y0, y1, m, rfl, _, _, hy0, hy1⟩ := open_agg2 Tryd.underlying24 (by kernel_rfl) (by kernel_rfl) hv h
  obtain ⟨x, e0, _, wx⟩ := DataW.trod_int Tryd.underlying22 hy0
  obtain ⟨y, e1, _, wy⟩ := DataW.trod_int Tryd.underlying22 hy1
  simp at e0 e1
  subst e0 e1
  obtain ⟨x0, x1⟩ := bounds_u64 wx
  obtain ⟨y0', y1'⟩ := bounds_u64 wy
  obtain ⟨n, hn, rfl, rfl⟩ := words_of x y (by omega) (by omega) (by omega) (by omega)
  exact ⟨n, hn, rfl⟩
end
end Go.Proofs.YtmgkkbmcdnhdeabDoor
