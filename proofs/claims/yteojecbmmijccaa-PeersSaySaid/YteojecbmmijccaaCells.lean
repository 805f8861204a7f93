/- Lists of ints as cells. -/
import Derived.Test.YteojecbmmijccaaBase
namespace Go.Proofs.Yteojecbmmijccaa
open Go.RowKit
set_option linter.unusedSimpArgs false
set_option linter.unusedVariables false

def cellsI (l : List Int) : List Value := l.map fun x => .int .i64 x
theorem cellsI_at (l : List Int) (k : Nat) (h : k < l.length) : (cellsI l)[k]? = some (.int .i64 (l.getD k 0)) := by
  simp [cellsI, List.getD, List.getElem?_eq_getElem h]

theorem anyI_take {p : Int → Bool} {xs : List Int} {j : Nat} (h : (xs.take j).any p = true) : xs.any p = true := by
  rw [List.any_eq_true] at h ⊢
  obtain ⟨x, hx, hp⟩ := h
  exact ⟨x, List.mem_of_mem_take hx, hp⟩
theorem anyI_step {p : Int → Bool} {xs : List Int} {k : Nat} (hk : k < xs.length) (h : (xs.take k).any p = false) : (xs.take (k + 1)).any p = p (xs.getD k 0) := by
  rw [List.take_add_one, List.any_append, h, List.getElem?_eq_getElem hk]
  simp [List.getD_eq_getElem?_getD, hk]

def SomeIdxI (b : Bool) (w : World) (e : Ending) (w' : World) : Prop := ∃ k : Int, (decide (0 ≤ k) = b) ∧ e = .returned (.int .i64 k) ∧ w = w'

end Go.Proofs.Yteojecbmmijccaa
