/- How a list of numbers among the arguments is opened. (with what it needs) -/
import Derived.Test.YthimchhnhhchkaaGreatDoorM04
import Derived.ProofKit
import Derived.OpenShut
import Derived.Lib.SmallJoins
import Derived.ChangeSlices
namespace Go.Proofs.YthimchhnhhchkaaGreatDoor
open Go.RowKit Go.ChangeShapes Go.WideShapes Go.Joins
set_option linter.unusedSimpArgs false
set_option linter.unusedVariables false

section
variable {H : Type} {enc : TypeId × Value → H} {w : World} {base b0 : Nat} {spare : Nat → Bool} {held : Bool} {r : Reach} {v : Value} {d : DataW H} {p : List MemPlace}
theorem cell_block {w : World} {a : Addr} {u : Value} (h : w.cell? a = some u) : a.block < w.heap.size := by
  unfold World.cell? at h
  by_cases hb : a.block < w.heap.size
  · exact hb
  · simp [Array.getElem?_eq_none (Nat.le_of_not_lt hb)] at h
set_option maxRecDepth 100000 in
theorem open_list (hv : Value.okWide Tryz.prog w r b0 84 v) (h : DataW.Trod enc Tryz.prog w base spare held 84 v d p) :
    ∃ (A : Option Addr) (c : Nat) (l : List Int), v = .slice A l.length c ∧ Reads w w.heap.size 1 A l.length (cellsI l) ∧ (l.length ≤ c ∧ c ≤ maxLen) ∧ (∀ x ∈ l, -9223372036854775808 ≤ x ∧ x ≤ 9223372036854775807) := by
  obtain ⟨a, len, cap, rfl⟩ := okWide_slice Tryz.underlying84 hv
  obtain ⟨fuel, hf⟩ := h
  rcases open_ints Tryz.underlying84 Tryz.underlying3 (by kernel_rfl) hf with ⟨hcs, hx⟩ | ⟨a', len', cap', zs, hcs, _, hl, hm, hz, hx, hcell, hwz⟩
  · simp [Value.cells] at hcs
    obtain ⟨rfl, rfl, rfl⟩ := hcs
    exact ⟨none, 0, [], rfl, Reads.none_, ⟨by simp, by unfold maxLen; omega⟩, by simp⟩
  · simp [Value.cells] at hcs
    obtain ⟨rfl, rfl, rfl⟩ := hcs
    have hlen : len ≤ zs.length := by rw [hz]; split <;> omega
    have htl : (zs.take len).length = len := by rw [List.length_take]; omega
    refine ⟨some a', cap, zs.take len, by rw [htl], ⟨by simp [cellsI], fun hn => ⟨a', rfl, ?_, ?_⟩⟩, ⟨by omega, hm⟩, fun x hx => ?_⟩
    · have := cell_block (hcell 0 (by omega))
      rwa [block_of_add] at this
    · intro j u hj
      have hjl : j < len := by
        have := (List.getElem?_eq_some_iff.1 hj).1
        simp [cellsI] at this
        omega
      rw [cellsI_at _ _ (by omega)] at hj
      injection hj with hj
      subst hj
      rw [hcell j (by omega)]
      simp [List.getD, List.getElem?_take, hjl]
    · exact bounds_i64 (hwz x (List.mem_of_mem_take hx))
end
end Go.Proofs.YthimchhnhhchkaaGreatDoor

namespace Go.Proofs.YthimchhnhhchkaaGreatDoor
open Go.RowKit Go.ChangeShapes Go.WideShapes Go.Joins
set_option linter.unusedSimpArgs false
set_option linter.unusedVariables false

section
variable {H : Type} {enc : TypeId × Value → H} {w : World} {base b0 : Nat} {spare : Nat → Bool} {held : Bool} {r : Reach} {v : Value} {d : DataW H} {p : List MemPlace}
set_option maxRecDepth 100000 in
theorem list_trod {fuel : Nat} {u : Value} {x : DataW H × List MemPlace} (hf : DataW.trod enc Tryz.prog w base spare held fuel 84 [u] = some x) :
    ∃ (A : Option Addr) (c : Nat) (l : List Int), u = .slice A l.length c ∧ Reads w w.heap.size 1 A l.length (cellsI l) ∧ (l.length ≤ c ∧ c ≤ maxLen) ∧ (∀ x ∈ l, -9223372036854775808 ≤ x ∧ x ≤ 9223372036854775807) := by
  rcases open_ints Tryz.underlying84 Tryz.underlying3 (by kernel_rfl) hf with ⟨hcs, hx⟩ | ⟨a', len', cap', zs, hcs, _, hl, hm, hz, hx, hcell, hwz⟩
  · injection hcs with hcs _
    subst hcs
    exact ⟨none, 0, [], rfl, Reads.none_, ⟨by simp, by unfold maxLen; omega⟩, by simp⟩
  · injection hcs with hcs _
    subst hcs
    have hlen : len' ≤ zs.length := by rw [hz]; split <;> omega
    have htl : (zs.take len').length = len' := by rw [List.length_take]; omega
    refine ⟨some a', cap', zs.take len', by rw [htl], ⟨by simp [cellsI], fun hn => ⟨a', rfl, ?_, ?_⟩⟩, ⟨by omega, hm⟩, fun x hx => ?_⟩
    · have := cell_block (hcell 0 (by omega))
      rwa [block_of_add] at this
    · intro j u hj
      have hjl : j < len' := by
        have := (List.getElem?_eq_some_iff.1 hj).1
        simp [cellsI] at this
        omega
      rw [cellsI_at _ _ (by omega)] at hj
      injection hj with hj
      subst hj
      rw [hcell j (by omega)]
      simp [List.getD, List.getElem?_take, hjl]
    · exact bounds_i64 (hwz x (List.mem_of_mem_take hx))
set_option maxRecDepth 100000 in
theorem open_win (hv : Value.okWide Tryz.prog w r b0 97 v) (h : DataW.Trod enc Tryz.prog w base spare held 97 v d p) :
    ∃ (m : Int) (A : Option Addr) (c : Nat) (l : List Int), v = .agg #[.int .i64 m, .slice A l.length c] ∧ (-9223372036854775808 ≤ m ∧ m ≤ 9223372036854775807) ∧ Reads w w.heap.size 1 A l.length (cellsI l) ∧ (l.length ≤ c ∧ c ≤ maxLen) ∧ (∀ x ∈ l, -9223372036854775808 ≤ x ∧ x ≤ 9223372036854775807) := by
  obtain ⟨c0, c1, y0, y1, m, rfl, _, _, hy0, hy1⟩ := open_agg2 Tryz.underlying97 (by kernel_rfl) (by kernel_rfl) hv h
  obtain ⟨x, e0, _, wx⟩ := DataW.trod_int Tryz.underlying3 hy0
  obtain ⟨A, c, l, e1, hr, hb, hs⟩ := list_trod hy1
  simp at e0
  subst e0 e1
  exact ⟨x, A, c, l, rfl, bounds_i64 wx, hr, hb, hs⟩
end
end Go.Proofs.YthimchhnhhchkaaGreatDoor
