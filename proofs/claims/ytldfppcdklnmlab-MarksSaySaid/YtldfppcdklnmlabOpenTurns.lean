/- How a list of turns among the arguments is opened. -/
import Derived.Test.YtldfppcdklnmlabTurns
import Derived.Deep.Slices
import Derived.Deep.Fields
import Derived.ChangeSame
import Derived.ProofKit
import Derived.OpenShut
namespace Go.Proofs.Ytldfppcdklnmlab
open Go.RowKit Go.ChangeShapes Go.WideShapes Go.Deep
set_option linter.unusedSimpArgs false
set_option linter.unusedVariables false

section
variable {H : Type} {enc : TypeId × Value → H} {P : Program} {w : World} {base : Nat} {spare : Nat → Bool} {held : Bool}
theorem open_slice_fields {t e : TypeId} {fs : Array Field} {fuel : Nat} {cs : List Value} {x : DataW H × List MemPlace} (ht : P.underlying t = some (.slice e)) (he : P.underlying e = some (.struct fs))
    (hone : oneCellFields P fs = true) (hC : P.cellsOf e = fs.size) (h : DataW.trod enc P w base spare held fuel t cs = some x) :
    (cs = [.slice none 0 0]) ∨
    ∃ (a : Addr) (len cap : Nat), cs = [.slice (some a) len cap] ∧ len ≤ cap ∧ cap ≤ maxLen ∧
      ∀ i, i < len → ∀ (j : Nat) (f : Field), fs[j]? = some f → ∃ (n : Nat) (v : Value) (y : DataW H × List MemPlace), w.cell? (a.add (i * fs.size + j)) = some v ∧ DataW.trod enc P w base spare held n f.type [v] = some y := by
  rcases open_slice ht h with h0 | ⟨a, len, cap, m, n, D, Pl, hcs, hb, hl, hm, hmm, hx, hi⟩
  · exact .inl h0.1
  · refine .inr ⟨a, len, cap, hcs, hl, hm, fun i him j f hj => ?_⟩
    obtain ⟨cs', hc, ht'⟩ := hi i (by rw [hmm]; split <;> omega)
    rw [hC] at hc
    obtain ⟨ys, n', hn', hy, hlen, hyl, hf⟩ := DataW.trod_struct he ht'
    obtain ⟨_, hcl, hat⟩ := World.cells?_some hc
    obtain ⟨ho, hk⟩ := hone_of hone j f hj
    have hjl : j < fs.size := (Array.getElem?_eq_some_iff.1 hj).1
    have hcell := hat j hjl
    have hv : cs'[j]? = some (cs'[j]'(by omega)) := List.getElem?_eq_getElem (by omega)
    have h1 := hf j f hj
    rw [ho, hk] at h1
    have hone' : (cs'.drop j).take 1 = [cs'[j]'(by omega)] := by
      rw [List.drop_eq_getElem_cons (by omega)]
      rfl
    rw [hone'] at h1
    have hys : ys[j]? = some (ys[j]'(by omega)) := List.getElem?_eq_getElem (by omega)
    refine ⟨n', _, _, ?_, h1.trans hys⟩
    rw [← Go.Deep.add_add, hcell, hv]
end

theorem cell_blk {w : World} {a : Addr} {u : Value} (h : w.cell? a = some u) : a.block < w.heap.size := by
  unfold World.cell? at h
  by_cases hb : a.block < w.heap.size
  · exact hb
  · simp [Array.getElem?_eq_none (Nat.le_of_not_lt hb)] at h
theorem cellsT_of (f : Nat → Trn) : ∀ n k, k < n → (cellsT ((List.range n).map f))[k * 2]? = some (.int .i64 (f k).1) ∧ (cellsT ((List.range n).map f))[k * 2 + 1]? = some (.bool (f k).2) := by
  intro n k hk
  obtain ⟨a, b⟩ := cellsT_at ((List.range n).map f) k (by simpa using hk)
  have e : ((List.range n).map f).getD k (0, false) = f k := by simp [List.getD, hk]
  unfold Tm at a
  unfold Sp at b
  rw [e] at a b
  exact ⟨a, b⟩
section
variable {H : Type} {enc : TypeId × Value → H} {w : World} {base b0 : Nat} {spare : Nat → Bool} {held : Bool} {r : Reach} {v : Value} {d : DataW H} {p : List MemPlace}
set_option maxRecDepth 100000 in
theorem open_turns (hv : Value.okWide Try.prog w r b0 22 v) (h : DataW.Trod enc Try.prog w base spare held 22 v d p) :
    ∃ (A : Option Addr) (c : Nat) (l : List Trn), v = .slice A l.length c ∧ Reads w w.heap.size 2 A l.length (cellsT l) ∧ (l.length ≤ c ∧ c ≤ maxLen) := by
  obtain ⟨a, len, cap, rfl⟩ := okWide_slice Try.underlying22 hv
  obtain ⟨fuel, hf⟩ := h
  rcases open_slice_fields Try.underlying22 Try.underlying33 (by kernel_rfl) (by kernel_rfl) hf with hcs | ⟨a', len', cap', hcs, hl, hm, hall⟩
  · simp [Value.cells] at hcs
    obtain ⟨rfl, rfl, rfl⟩ := hcs
    exact ⟨none, 0, [], rfl, Reads.none_, ⟨by simp, by unfold maxLen; omega⟩⟩
  · simp [Value.cells] at hcs
    obtain ⟨rfl, rfl, rfl⟩ := hcs
    have h2 : ∀ i, i < len → ∃ t : Trn, w.cell? (a'.add (i * 2)) = some (.int .i64 t.1) ∧ w.cell? (a'.add (i * 2 + 1)) = some (.bool t.2) := by
      intro i hi
      obtain ⟨n0, v0, y0, c0, r0⟩ := hall i hi 0 _ rfl
      obtain ⟨n1, v1, y1, c1, r1⟩ := hall i hi 1 _ rfl
      obtain ⟨x, e0, _, _⟩ := DataW.trod_int Try.underlying3 r0
      obtain ⟨s, e1, _⟩ := DataW.trod_bool Try.underlying4 r1
      simp at e0 e1
      subst e0 e1
      exact ⟨(x, s), c0, c1⟩
    have h3 : ∃ f : Nat → Trn, ∀ i, i < len → w.cell? (a'.add (i * 2)) = some (.int .i64 (f i).1) ∧ w.cell? (a'.add (i * 2 + 1)) = some (.bool (f i).2) :=
      ⟨fun i => if hi : i < len then Classical.choose (h2 i hi) else (0, false), fun i hi => by
        simp only [dif_pos hi]
        exact Classical.choose_spec (h2 i hi)⟩
    obtain ⟨f, hf2⟩ := h3
    have hlen : ((List.range len).map f).length = len := by simp
    refine ⟨some a', cap, (List.range len).map f, by rw [hlen], ⟨by rw [cellsT_len], fun hn => ⟨a', rfl, ?_, ?_⟩⟩, ⟨by omega, hm⟩⟩
    · have := cell_blk (hf2 0 (by omega)).1
      rwa [block_of_add] at this
    · intro j u hj
      have hjl : j < len * 2 := by
        have := (List.getElem?_eq_some_iff.1 hj).1
        rw [cellsT_len, hlen] at this
        exact this
      have hq := cellsT_of f len (j / 2) (by omega)
      have hw := hf2 (j / 2) (by omega)
      rcases Nat.mod_two_eq_zero_or_one j with hp | hp
      · have e : j = j / 2 * 2 := by omega
        rw [e, hq.1] at hj
        rw [e, hw.1, hj]
      · have e : j = j / 2 * 2 + 1 := by omega
        rw [e, hq.2] at hj
        rw [e, hw.2, hj]
end
end Go.Proofs.Ytldfppcdklnmlab
