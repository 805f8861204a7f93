/- How a list of texts among the arguments is opened. -/
import Derived.Test.YthimchhnhhchkaaGreatDoorM38
import Derived.Test.YthimchhnhhchkaaGreatDoorM16
import Derived.Deep.Slices
namespace Go.Proofs.YthimchhnhhchkaaGreatDoor
open Go.RowKit Go.ChangeShapes Go.WideShapes Go.Joins Go.Deep
set_option linter.unusedSimpArgs false
set_option linter.unusedVariables false

theorem cellsTx_at (l : List ByteArray) (k : Nat) (d : ByteArray) (h : k < l.length) : (cellsTx l)[k]? = some (.string (l.getD k d)) := by simp [cellsTx, List.getD, List.getElem?_eq_getElem h]
section
variable {H : Type} {enc : TypeId × Value → H} {w : World} {base b0 : Nat} {spare : Nat → Bool} {held : Bool} {r : Reach} {v : Value} {d : DataW H} {p : List MemPlace}
set_option maxRecDepth 100000 in
theorem open_texts (hv : Value.okWide Tryz.prog w r b0 33 v) (h : DataW.Trod enc Tryz.prog w base spare held 33 v d p) :
    ∃ (A : Option Addr) (c : Nat) (l : List ByteArray), v = .slice A l.length c ∧ Reads w w.heap.size 1 A l.length (cellsTx l) ∧ (l.length ≤ c ∧ c ≤ maxLen) ∧ ∀ s ∈ l, s.size ≤ maxLen := by
  obtain ⟨a, len, cap, rfl⟩ := okWide_slice Tryz.underlying33 hv
  obtain ⟨fuel, hf⟩ := h
  rcases open_slice Tryz.underlying33 hf with h0 | ⟨a', len', cap', m, n, D, Pl, hcs, hb, hl, hm, hmm, hx, hi⟩
  · have hcs := h0.1
    simp [Value.cells] at hcs
    obtain ⟨rfl, rfl, rfl⟩ := hcs
    exact ⟨none, 0, [], rfl, Reads.none_, ⟨by simp, by unfold maxLen; omega⟩, by simp⟩
  · simp [Value.cells] at hcs
    obtain ⟨rfl, rfl, rfl⟩ := hcs
    have hC : Tryz.prog.cellsOf 9 = 1 := by kernel_rfl
    have h2 : ∀ i, i < len → ∃ t : ByteArray, w.cell? (a'.add i) = some (.string t) ∧ t.size ≤ maxLen := by
      intro i hil
      obtain ⟨cs', hc, ht'⟩ := hi i (by rw [hmm]; split <;> omega)
      rw [hC] at hc
      obtain ⟨_, hcl, hat⟩ := World.cells?_some hc
      obtain ⟨s, rfl, _, hs⟩ := DataW.trod_string Tryz.underlying9 ht'
      have h0 := hat 0 (by omega)
      rw [add_of_add, show i * 1 + 0 = i by omega] at h0
      exact ⟨s, h0, hs⟩
    have h3 : ∃ f : Nat → ByteArray, ∀ i, i < len → w.cell? (a'.add i) = some (.string (f i)) ∧ (f i).size ≤ maxLen :=
      ⟨fun i => if hi : i < len then Classical.choose (h2 i hi) else ByteArray.empty, fun i hi => by
        simp only [dif_pos hi]
        exact Classical.choose_spec (h2 i hi)⟩
    obtain ⟨f, hf⟩ := h3
    have hlen : ((List.range len).map f).length = len := by simp
    refine ⟨some a', cap, (List.range len).map f, by rw [hlen], ⟨by simp [cellsTx], fun hn => ⟨a', rfl, ?_, ?_⟩⟩, ⟨by omega, hm⟩, ?_⟩
    · have := cell_block (hf 0 (by omega)).1
      rwa [block_of_add] at this
    · intro j u hj
      have hjl : j < len := by
        have := (List.getElem?_eq_some_iff.1 hj).1
        simpa [cellsTx] using this
      rw [cellsTx_at _ _ ByteArray.empty (by omega)] at hj
      injection hj with hj
      subst hj
      rw [(hf j hjl).1]
      have e : ((List.range len).map f).getD j ByteArray.empty = f j := by simp [List.getD, hjl]
      rw [e]
    · intro r hr
      obtain ⟨i, hi, rfl⟩ := List.mem_map.1 hr
      exact (hf i (List.mem_range.1 hi)).2
end
end Go.Proofs.YthimchhnhhchkaaGreatDoor
