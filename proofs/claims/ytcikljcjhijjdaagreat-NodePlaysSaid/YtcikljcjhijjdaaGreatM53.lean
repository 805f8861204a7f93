/- How a Config, and a list of them, among the arguments is opened. -/
import Derived.Test.YtcikljcjhijjdaaGreatM47
import Derived.Test.YtcikljcjhijjdaaGreatM18
import Derived.Deep.Slices
import Derived.Deep.Fields
import Derived.ChangeSame
namespace Go.Proofs.YtcikljcjhijjdaaGreat
open Go.RowKit Go.ChangeShapes Go.WideShapes Go.Joins Go.Deep
set_option linter.unusedSimpArgs false
set_option linter.unusedVariables false

def ccells (c : CfgD) : List Value := [.string c.1, .int .i64 (cfi c), .int .i64 (cfe c), .int .i64 (cfc c), .int .i64 (cfl c)]
section
variable {H : Type} {enc : TypeId × Value → H} {w : World} {base b0 : Nat} {spare : Nat → Bool} {held : Bool} {r : Reach} {v : Value} {d : DataW H} {p : List MemPlace}
set_option maxRecDepth 100000 in
theorem cfg_trod {fuel : Nat} {cs : List Value} {x : DataW H × List MemPlace} (hf : DataW.trod enc Tryz.prog w base spare held fuel 23 cs = some x) :
    ∃ c : CfgD, cs = ccells c ∧ c.1.size ≤ maxLen := by
  obtain ⟨xs, n, _, _, hl, hlen, hat⟩ := DataW.trod_struct Tryz.underlying23 hf
  have hl3 : cs.length = 5 := hl.trans (by kernel_rfl)
  have hlen3 : xs.length = 5 := hlen
  have k0 : Tryz.prog.cellsOf 9 = 1 := by kernel_rfl
  have k1 : Tryz.prog.cellsOf 3 = 1 := by kernel_rfl
  match cs, hl3 with
  | [c0, c1, c2, c3, c4], _ =>
    have h0 : DataW.trod enc Tryz.prog w base spare held n 9 (([c0, c1, c2, c3, c4].drop 0).take (Tryz.prog.cellsOf 9)) = xs[0]? := hat 0 _ rfl
    have h1 : DataW.trod enc Tryz.prog w base spare held n 3 (([c0, c1, c2, c3, c4].drop 1).take (Tryz.prog.cellsOf 3)) = xs[1]? := hat 1 _ rfl
    have h2 : DataW.trod enc Tryz.prog w base spare held n 3 (([c0, c1, c2, c3, c4].drop 2).take (Tryz.prog.cellsOf 3)) = xs[2]? := hat 2 _ rfl
    have h3 : DataW.trod enc Tryz.prog w base spare held n 3 (([c0, c1, c2, c3, c4].drop 3).take (Tryz.prog.cellsOf 3)) = xs[3]? := hat 3 _ rfl
    have h4 : DataW.trod enc Tryz.prog w base spare held n 3 (([c0, c1, c2, c3, c4].drop 4).take (Tryz.prog.cellsOf 3)) = xs[4]? := hat 4 _ rfl
    rw [k0] at h0
    rw [k1] at h1 h2 h3 h4
    rw [List.getElem?_eq_getElem (by omega)] at h0 h1 h2 h3 h4
    obtain ⟨s, e0, _, hs⟩ := DataW.trod_string Tryz.underlying9 h0
    obtain ⟨z1, e1, _, _⟩ := DataW.trod_int Tryz.underlying3 h1
    obtain ⟨z2, e2, _, _⟩ := DataW.trod_int Tryz.underlying3 h2
    obtain ⟨z3, e3, _, _⟩ := DataW.trod_int Tryz.underlying3 h3
    obtain ⟨z4, e4, _, _⟩ := DataW.trod_int Tryz.underlying3 h4
    simp at e0 e1 e2 e3 e4
    subst e0 e1 e2 e3 e4
    exact ⟨(s, z1, z2, z3, z4), rfl, hs⟩
set_option maxRecDepth 100000 in
theorem open_cfg (hv : Value.okWide Tryz.prog w r b0 23 v) (h : DataW.Trod enc Tryz.prog w base spare held 23 v d p) :
    ∃ c : CfgD, v = cfgV c ∧ c.1.size ≤ maxLen := by
  obtain ⟨cs, rfl, hsz⟩ := okWide_struct Tryz.underlying23 hv
  obtain ⟨fuel, hf⟩ := h
  obtain ⟨c, hc, hs⟩ := cfg_trod hf
  refine ⟨c, ?_, hs⟩
  obtain ⟨l⟩ := cs
  have : l = ccells c := by simpa [Value.cells] using hc
  rw [this]
  rfl
end
end Go.Proofs.YtcikljcjhijjdaaGreat
