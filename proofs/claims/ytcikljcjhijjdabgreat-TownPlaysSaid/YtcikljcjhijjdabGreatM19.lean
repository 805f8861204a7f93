/- How a list of lists of numbers among the arguments is opened. -/
import Derived.Test.YtcikljcjhijjdabGreatM17
import Derived.Deep.Slices
namespace Go.Proofs.YtcikljcjhijjdabGreat
open Go.RowKit Go.ChangeShapes Go.WideShapes Go.Joins Go.Deep
set_option linter.unusedSimpArgs false
set_option linter.unusedVariables false

/-- a row as it stands in a list: where, its room, its numbers -/
abbrev RowT := Option Addr × Nat × List Int
def rowV (r : RowT) : Value := .slice r.1 r.2.2.length r.2.1
def cellsRw (l : List RowT) : List Value := l.map rowV
def RowOk (w : World) (B : Nat) (r : RowT) : Prop := Reads w B 1 r.1 r.2.2.length (cellsI r.2.2) ∧ r.2.2.length ≤ r.2.1 ∧ r.2.1 ≤ maxLen
theorem cellsRw_at (l : List RowT) (k : Nat) (d : RowT) (h : k < l.length) : (cellsRw l)[k]? = some (rowV (l.getD k d)) := by simp [cellsRw, List.getD, List.getElem?_eq_getElem h]
theorem RowOk.below {w w' : World} {B C : Nat} {r : RowT} (h : RowOk w B r) (hb : Below C w w') (hC : B ≤ C) : RowOk w' B r := ⟨h.1.below hb hC, h.2⟩

section
variable {H : Type} {enc : TypeId × Value → H} {w : World} {base b0 : Nat} {spare : Nat → Bool} {held : Bool} {r : Reach} {v : Value} {d : DataW H} {p : List MemPlace}
set_option maxRecDepth 100000 in
theorem open_rows (hv : Value.okWide Tryz.prog w r b0 23 v) (h : DataW.Trod enc Tryz.prog w base spare held 23 v d p) :
    ∃ (A : Option Addr) (c : Nat) (l : List RowT), v = .slice A l.length c ∧ Reads w w.heap.size 1 A l.length (cellsRw l) ∧ (l.length ≤ c ∧ c ≤ maxLen) ∧ ∀ r ∈ l, RowOk w w.heap.size r := by
  obtain ⟨a, len, cap, rfl⟩ := okWide_slice Tryz.underlying23 hv
  obtain ⟨fuel, hf⟩ := h
  rcases open_slice Tryz.underlying23 hf with h0 | ⟨a', len', cap', m, n, D, Pl, hcs, hb, hl, hm, hmm, hx, hi⟩
  · have hcs := h0.1
    simp [Value.cells] at hcs
    obtain ⟨rfl, rfl, rfl⟩ := hcs
    exact ⟨none, 0, [], rfl, Reads.none_, ⟨by simp, by unfold maxLen; omega⟩, by simp⟩
  · simp [Value.cells] at hcs
    obtain ⟨rfl, rfl, rfl⟩ := hcs
    have hC : Tryz.prog.cellsOf 35 = 1 := by kernel_rfl
    have h2 : ∀ i, i < len → ∃ t : RowT, w.cell? (a'.add i) = some (rowV t) ∧ RowOk w w.heap.size t := by
      intro i hil
      obtain ⟨cs', hc, ht'⟩ := hi i (by rw [hmm]; split <;> omega)
      rw [hC] at hc
      obtain ⟨_, hcl, hat⟩ := World.cells?_some hc
      obtain ⟨u, rfl⟩ : ∃ u, cs' = [u] := by
        match cs', hcl with
        | [u], _ => exact ⟨u, rfl⟩
      obtain ⟨A, c, l, rfl, hr, hb, _⟩ := list_trod ht'
      have h0 := hat 0 (by omega)
      rw [add_of_add, show i * 1 + 0 = i by omega] at h0
      exact ⟨(A, c, l), h0, hr, hb⟩
    have h3 : ∃ f : Nat → RowT, ∀ i, i < len → w.cell? (a'.add i) = some (rowV (f i)) ∧ RowOk w w.heap.size (f i) :=
      ⟨fun i => if hi : i < len then Classical.choose (h2 i hi) else (none, 0, []), fun i hi => by
        simp only [dif_pos hi]
        exact Classical.choose_spec (h2 i hi)⟩
    obtain ⟨f, hf⟩ := h3
    have hlen : ((List.range len).map f).length = len := by simp
    refine ⟨some a', cap, (List.range len).map f, by rw [hlen], ⟨by simp [cellsRw], fun hn => ⟨a', rfl, ?_, ?_⟩⟩, ⟨by omega, hm⟩, ?_⟩
    · have := cell_block (hf 0 (by omega)).1
      rwa [block_of_add] at this
    · intro j u hj
      have hjl : j < len := by
        have := (List.getElem?_eq_some_iff.1 hj).1
        simpa [cellsRw] using this
      rw [cellsRw_at _ _ (none, 0, []) (by omega)] at hj
      injection hj with hj
      subst hj
      rw [(hf j hjl).1]
      have e : ((List.range len).map f).getD j (none, 0, []) = f j := by simp [List.getD, hjl]
      rw [e]
    · intro r hr
      obtain ⟨i, hi, rfl⟩ := List.mem_map.1 hr
      exact (hf i (List.mem_range.1 hi)).2
end
end Go.Proofs.YtcikljcjhijjdabGreat
