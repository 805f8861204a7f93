/- How the arguments of this seat's laws are opened: histograms. -/
import Derived.Test.YtfenbjffjeidmabHist
import Derived.ProofKit
import Derived.OpenShut
import Derived.Lib.SmallJoins
namespace Go.Proofs.Ytfenbjffjeidmab
open Go.RowKit Go.ChangeShapes Go.WideShapes Go.Joins
set_option linter.unusedSimpArgs false
set_option linter.unusedVariables false
section
variable {H : Type} {enc : TypeId × Value → H} {w : World} {base b0 : Nat} {spare : Nat → Bool} {held : Bool} {r : Reach} {v : Value} {d : DataW H} {p : List MemPlace}
set_option maxRecDepth 100000 in
theorem open_hist (hv : Value.okWide Try.prog w r b0 24 v) (h : DataW.Trod enc Try.prog w base spare held 24 v d p) :
    ∃ l : List Int, l.length = 26 ∧ v = .agg (histA l) := by
  obtain ⟨cs, rfl, hsz⟩ := okWide_struct Try.underlying24 hv
  have hC : Try.prog.cellsOf 24 = 26 := by kernel_rfl
  have hC2 : Try.prog.cellsOf 22 = 26 := by kernel_rfl
  have hC3 : Try.prog.cellsOf 3 = 1 := by kernel_rfl
  obtain ⟨fuel, hf⟩ := h
  obtain ⟨xs, n, -, -, hl, hxs, hfld⟩ := DataW.trod_struct Try.underlying24 hf
  have h0 := hfld 0 _ rfl
  obtain ⟨y, hy⟩ : ∃ y, xs[0]? = some y := ⟨xs[0]'(by rw [hxs]; decide), List.getElem?_eq_getElem _⟩
  rw [hy] at h0
  obtain ⟨ys, m, -, -, hl2, hys, hel⟩ := DataW.trod_array Try.underlying22 h0
  have hall : ∀ i, i < 26 → ∃ a : Int, cs[i]? = some (.int .i64 a) := by
    intro i hi
    have h1 := hel i hi
    obtain ⟨z, hz⟩ : ∃ z, ys[i]? = some z := ⟨ys[i]'(by omega), List.getElem?_eq_getElem _⟩
    rw [hz, hC3] at h1
    obtain ⟨a, e, -, -⟩ := DataW.trod_int Try.underlying3 h1
    refine ⟨a, ?_⟩
    have hc := congrArg (fun l => l[0]?) e
    simp only [List.getElem?_take, List.getElem?_drop, hC2, hC] at hc
    simp [Value.cells, hi] at hc
    exact hc.2
  refine ⟨cs.toList.map fun | .int _ a => a | _ => 0, by simp [hsz, hC], ?_⟩
  congr 1
  apply Array.ext_getElem?
  intro i
  rcases Nat.lt_or_ge i 26 with hi | hi
  · obtain ⟨a, ha⟩ := hall i hi
    rw [ha]
    simp [histA, ha]
  · rw [Array.getElem?_eq_none (by rw [hsz, hC]; exact hi), Array.getElem?_eq_none (by rw [histA_size]; simp [hsz, hC]; exact hi)]
end
end Go.Proofs.Ytfenbjffjeidmab
