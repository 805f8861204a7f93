/- The reference's Id of the word "a"; slices.ContainsFunc over bytes. -/
import Derived.Test.YthimchhnhhchkaaGreatDoorM04
import Derived.Lib.ConvBytes
import Derived.Lib.AtoiErrMem
namespace Go.Proofs.YthimchhnhhchkaaGreatDoor
open Go.RowKit Go.Lib
set_option linter.unusedSimpArgs false
set_option linter.unusedVariables false

/-- not a letter -/
def offB (c : Int) : Bool := !wi c 97 122









def SomeIdx (b : Bool) (w : World) (e : Ending) (w' : World) : Prop := ∃ k : Int, (decide (0 ≤ k) = b) ∧ e = .returned (.int .i64 k) ∧ w = w'

theorem any_take {p : Int → Bool} {xs : List Int} {j : Nat} (h : (xs.take j).any p = true) : xs.any p = true := by
  rw [List.any_eq_true] at h ⊢
  obtain ⟨x, hx, hp⟩ := h
  exact ⟨x, List.mem_of_mem_take hx, hp⟩



























































def bytesOf (s : ByteArray) : List Int := s.data.toList.map fun x => (x.toNat : Int)
def idB (s : ByteArray) : Bool := wi s.size 1 8 && !(bytesOf s).any offB




































def beatE (s : ByteArray) (inc seq : Int) : Int := if idB s then (if 0 ≤ inc ∧ inc ≤ 2147483647 ∧ 1 ≤ seq ∧ seq ≤ 2147483647 then 0 else 1) else 3

























end Go.Proofs.YthimchhnhhchkaaGreatDoor
