/- How a list of peers among the arguments is opened. -/
import Derived.Test.YteojecbmmijccaaPeP
import Derived.Test.YteojecbmmijccaaOpenWin
import Derived.Deep.Slices
import Derived.Deep.Fields
import Derived.ChangeSame
import Derived.ProofKit
import Derived.OpenShut
namespace Go.Proofs.Yteojecbmmijccaa
open Go.RowKit Go.ChangeShapes Go.WideShapes Go.Joins Go.Deep
set_option linter.unusedSimpArgs false
set_option linter.unusedVariables false

theorem cellsP_of (f : Nat → PeerT) (n k : Nat) (hk : k < n) (j : Nat) (hj : j < 7) : (cellsP ((List.range n).map f))[k * 7 + j]? = (pcells (f k))[j]? := by
  rw [cellsP_at _ k j (by simpa using hk) hj]
  simp

section
variable {H : Type} {enc : TypeId × Value → H} {w : World} {base b0 : Nat} {spare : Nat → Bool} {held : Bool} {r : Reach} {v : Value} {d : DataW H} {p : List MemPlace}
set_option maxRecDepth 100000 in
theorem gate_trod {fuel : Nat} {cs : List Value} {x : DataW H × List MemPlace} (hf : DataW.trod enc Try.prog w base spare held fuel 29 cs = some x) :
    ∃ a b c : Int, cs = [.int .i64 a, .int .i64 b, .int .i64 c] := by
  obtain ⟨xs, n, _, _, hl, hlen, hat⟩ := DataW.trod_struct Try.underlying29 hf
  have hl3 : cs.length = 3 := hl.trans (by kernel_rfl)
  have hlen3 : xs.length = 3 := hlen
  have k1 : Try.prog.cellsOf 3 = 1 := by kernel_rfl
  match cs, hl3 with
  | [c0, c1, c2], _ =>
    have h0 : DataW.trod enc Try.prog w base spare held n 3 (([c0, c1, c2].drop 0).take (Try.prog.cellsOf 3)) = xs[0]? := hat 0 _ rfl
    have h1 : DataW.trod enc Try.prog w base spare held n 3 (([c0, c1, c2].drop 1).take (Try.prog.cellsOf 3)) = xs[1]? := hat 1 _ rfl
    have h2 : DataW.trod enc Try.prog w base spare held n 3 (([c0, c1, c2].drop 2).take (Try.prog.cellsOf 3)) = xs[2]? := hat 2 _ rfl
    rw [k1] at h0 h1 h2
    rw [List.getElem?_eq_getElem (by omega)] at h0 h1 h2
    obtain ⟨a, e0, _, _⟩ := DataW.trod_int Try.underlying3 h0
    obtain ⟨b, e1, _, _⟩ := DataW.trod_int Try.underlying3 h1
    obtain ⟨c, e2, _, _⟩ := DataW.trod_int Try.underlying3 h2
    simp at e0 e1 e2
    subst e0 e1 e2
    exact ⟨a, b, c, rfl⟩
set_option maxRecDepth 100000 in
theorem win_trod {fuel : Nat} {cs : List Value} {x : DataW H × List MemPlace} (hf : DataW.trod enc Try.prog w base spare held fuel 32 cs = some x) :
    ∃ (m : Int) (A : Option Addr) (c : Nat) (l : List Int), cs = [.int .i64 m, .slice A l.length c] ∧ Reads w w.heap.size 1 A l.length (cellsI l) ∧ (l.length ≤ c ∧ c ≤ maxLen) := by
  obtain ⟨xs, n, _, _, hl, hlen, hat⟩ := DataW.trod_struct Try.underlying32 hf
  have hl3 : cs.length = 2 := hl.trans (by kernel_rfl)
  have hlen3 : xs.length = 2 := hlen
  have k1 : Try.prog.cellsOf 3 = 1 := by kernel_rfl
  have k2 : Try.prog.cellsOf 30 = 1 := by kernel_rfl
  match cs, hl3 with
  | [c0, c1], _ =>
    have h0 : DataW.trod enc Try.prog w base spare held n 3 (([c0, c1].drop 0).take (Try.prog.cellsOf 3)) = xs[0]? := hat 0 _ rfl
    have h1 : DataW.trod enc Try.prog w base spare held n 30 (([c0, c1].drop 1).take (Try.prog.cellsOf 30)) = xs[1]? := hat 1 _ rfl
    rw [k1] at h0
    rw [k2] at h1
    rw [List.getElem?_eq_getElem (by omega)] at h0 h1
    obtain ⟨a, e0, _, _⟩ := DataW.trod_int Try.underlying3 h0
    obtain ⟨A, c, l, e1, hr, hb, hs⟩ := list_trod h1
    simp at e0
    subst e0 e1
    exact ⟨a, A, c, l, rfl, hr, hb⟩
set_option maxRecDepth 100000 in
theorem peer_trod {fuel : Nat} {cs : List Value} {x : DataW H × List MemPlace} (hf : DataW.trod enc Try.prog w base spare held fuel 34 cs = some x) :
    ∃ p : PeerT, cs = pcells p ∧ PeerOk w w.heap.size p := by
  obtain ⟨xs, n, _, _, hl, hlen, hat⟩ := DataW.trod_struct Try.underlying34 hf
  have hl3 : cs.length = 7 := hl.trans (by kernel_rfl)
  have hlen3 : xs.length = 4 := hlen
  have k0 : Try.prog.cellsOf 9 = 1 := by kernel_rfl
  have k1 : Try.prog.cellsOf 29 = 3 := by kernel_rfl
  have k2 : Try.prog.cellsOf 32 = 2 := by kernel_rfl
  have k3 : Try.prog.cellsOf 3 = 1 := by kernel_rfl
  match cs, hl3 with
  | [c0, c1, c2, c3, c4, c5, c6], _ =>
    have h0 : DataW.trod enc Try.prog w base spare held n 9 (([c0, c1, c2, c3, c4, c5, c6].drop 0).take (Try.prog.cellsOf 9)) = xs[0]? := hat 0 _ rfl
    have h1 : DataW.trod enc Try.prog w base spare held n 29 (([c0, c1, c2, c3, c4, c5, c6].drop 1).take (Try.prog.cellsOf 29)) = xs[1]? := hat 1 _ rfl
    have h2 : DataW.trod enc Try.prog w base spare held n 32 (([c0, c1, c2, c3, c4, c5, c6].drop 4).take (Try.prog.cellsOf 32)) = xs[2]? := hat 2 _ rfl
    have h3 : DataW.trod enc Try.prog w base spare held n 3 (([c0, c1, c2, c3, c4, c5, c6].drop 6).take (Try.prog.cellsOf 3)) = xs[3]? := hat 3 _ rfl
    rw [k0] at h0
    rw [k1] at h1
    rw [k2] at h2
    rw [k3] at h3
    rw [List.getElem?_eq_getElem (by omega)] at h0 h1 h2 h3
    obtain ⟨s, e0, _, hs⟩ := DataW.trod_string Try.underlying9 h0
    obtain ⟨g0, g1, g2, e1⟩ := gate_trod h1
    obtain ⟨m, A, c, l, e2, hr, hb⟩ := win_trod h2
    obtain ⟨z, e3, _, _⟩ := DataW.trod_int Try.underlying3 h3
    simp at e0 e1 e2 e3
    obtain ⟨rfl, rfl, rfl⟩ := e1
    obtain ⟨rfl, rfl⟩ := e2
    subst e0 e3
    exact ⟨((s, (g0, g1, g2), m, l, z), A, c), rfl, hr, hb.1, hb.2, hs⟩
set_option maxRecDepth 100000 in
theorem open_peers (hv : Value.okWide Try.prog w r b0 22 v) (h : DataW.Trod enc Try.prog w base spare held 22 v d p) :
    ∃ (A : Option Addr) (c : Nat) (l : List PeerT), v = .slice A l.length c ∧ Peers w w.heap.size A l.length l ∧ (l.length ≤ c ∧ c ≤ maxLen) := by
  obtain ⟨a, len, cap, rfl⟩ := okWide_slice Try.underlying22 hv
  obtain ⟨fuel, hf⟩ := h
  rcases open_slice Try.underlying22 hf with h0 | ⟨a', len', cap', m, n, D, Pl, hcs, hb, hl, hm, hmm, hx, hi⟩
  · have hcs := h0.1
    simp [Value.cells] at hcs
    obtain ⟨rfl, rfl, rfl⟩ := hcs
    exact ⟨none, 0, [], rfl, ⟨rfl, Reads.none_, by simp⟩, ⟨by simp, by unfold maxLen; omega⟩⟩
  · simp [Value.cells] at hcs
    obtain ⟨rfl, rfl, rfl⟩ := hcs
    have hC : Try.prog.cellsOf 34 = 7 := by kernel_rfl
    have h2 : ∀ i, i < len → ∃ t : PeerT, (∀ j, j < 7 → w.cell? (a'.add (i * 7 + j)) = (pcells t)[j]?) ∧ PeerOk w w.heap.size t := by
      intro i hil
      obtain ⟨cs', hc, ht'⟩ := hi i (by rw [hmm]; split <;> omega)
      rw [hC] at hc
      obtain ⟨_, hcl, hat⟩ := World.cells?_some hc
      obtain ⟨q, rfl, hok⟩ := peer_trod ht'
      exact ⟨q, fun j hj => by
        have h0 := hat j hj
        rw [add_of_add] at h0
        exact h0, hok⟩
    have h3 : ∃ f : Nat → PeerT, ∀ i, i < len → (∀ j, j < 7 → w.cell? (a'.add (i * 7 + j)) = (pcells (f i))[j]?) ∧ PeerOk w w.heap.size (f i) :=
      ⟨fun i => if hi : i < len then Classical.choose (h2 i hi) else ((⟨#[]⟩, (0, 0, 0), 0, [], 0), none, 0), fun i hi => by
        simp only [dif_pos hi]
        exact Classical.choose_spec (h2 i hi)⟩
    obtain ⟨f, hf⟩ := h3
    have hlen : ((List.range len).map f).length = len := by simp
    refine ⟨some a', cap, (List.range len).map f, by rw [hlen], ⟨rfl, ⟨by rw [cellsP_len], fun hn => ⟨a', rfl, ?_, ?_⟩⟩, ?_⟩, ⟨by omega, hm⟩⟩
    · have := (hf 0 (by omega)).1 0 (by decide)
      have := cell_block (this.trans rfl)
      rwa [block_of_add] at this
    · intro j u hj
      have hjl : j < len * 7 := by
        have := (List.getElem?_eq_some_iff.1 hj).1
        rw [cellsP_len, hlen] at this
        exact this
      have e : j = j / 7 * 7 + j % 7 := by omega
      rw [e, cellsP_of f len (j / 7) (by omega) (j % 7) (by omega)] at hj
      rw [e, (hf (j / 7) (by omega)).1 (j % 7) (by omega), hj]
    · intro q hq
      obtain ⟨i, hi, rfl⟩ := List.mem_map.1 hq
      exact (hf i (List.mem_range.1 hi)).2
end
end Go.Proofs.Yteojecbmmijccaa
