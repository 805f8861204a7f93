/- win.Push, walked. -/
import Derived.Test.YteojecbmmijccaaWinSame
import Derived.Test.YteojecbmmijccaaStep
namespace Go.Proofs.Yteojecbmmijccaa
open Go.RowKit
set_option linter.unusedSimpArgs false
set_option linter.unusedVariables false

def NewIntsB (l : List Int) (b : Nat) (w : World) (e : Ending) (w' : World) : Prop := ∃ A c, e = .returned (.slice A l.length c) ∧ w'.ownsRow b 3 1 (.slice A l.length c) l.length (cellsI l) ∧ Below w.heap.size w w'
theorem reads_new (w : World) (t : TypeId) (x : Int) : Reads (w.alloc (.cells #[.int .i64 x] t)) (w.heap.size + 1) 1 (some ⟨w.heap.size, 0, none⟩) 1 (cellsI [x]) :=
  ⟨rfl, fun _ => ⟨_, rfl, by simp, fun j u hj => by
    match j, hj with
    | 0, hj => simp [cellsI] at hj; subst hj; exact (Blk.new w t #[.int .i64 x]).cell 0⟩⟩

def cellV (w : World) (a : Addr) : Value := (w.cell? a).getD undef
/-- what stays while the result's block (g, two cells) is waited for: w0 is as it was, the blocks below b0 too, the cell a holds u -/
def Core (w0 : World) (b0 : Nat) (a : Addr) (u : Value) (g : Nat) (t : TypeId) (w' : World) : Prop :=
  Below w0.heap.size w0 w' ∧ b0 ≤ w'.heap.size ∧ w'.cell? a = some u ∧ ∃ cs, cs.size = 2 ∧ Blk w' g t cs
section
variable {w0 w' w'' : World} {b0 g : Nat} {a : Addr} {u : Value} {t : TypeId}
theorem Core.next (h : Core w0 b0 a u g t w') (h0 : w0.heap.size ≤ b0) (ha : a.block < b0) (hg : g < b0) (hb : Below b0 w' w'') : Core w0 b0 a u g t w'' := by
  obtain ⟨h1, h2, h3, cs, h4, h5⟩ := h
  exact ⟨h1.trans (hb.mono h0), Nat.le_trans h2 hb.size, (hb.cell ha).trans h3, cs, h4, h5.below hb hg⟩
theorem Core.set_ (h : Core w0 b0 a u g t w') (hg0 : w0.heap.size ≤ g) (ha : a.block ≠ g) (i : Nat) (v : Value) : Core w0 b0 a u g t (w'.setCell ⟨g, i, none⟩ v) := by
  obtain ⟨h1, h2, h3, cs, h4, h5⟩ := h
  exact ⟨h1.setCell hg0 _, by simpa using h2, (World.cell?_setCell_other w' ⟨g, i, none⟩ a v (fun e => ha (by rw [← e]))).trans h3, _, by simpa using h4, h5.set_ i v⟩
theorem Core.facts (h : Core w0 b0 a u g t w') : Core w0 b0 a u g t w' ∧ w'.cell? a = some u ∧ w'.cell? ⟨g, 0, none⟩ = some (cellV w' ⟨g, 0, none⟩) ∧ w'.cell? ⟨g, 1, none⟩ = some (cellV w' ⟨g, 1, none⟩) ∧ w'.frozen? ⟨g, 0, none⟩ = false ∧ w'.frozen? ⟨g, 1, none⟩ = false := by
  have h' := h
  obtain ⟨h1, h2, h3, cs, h4, h5⟩ := h
  have e0 : w'.cell? ⟨g, 0, none⟩ = some (cs[0]'(by omega)) := (h5.cell 0).trans (by simp [h4])
  have e1 : w'.cell? ⟨g, 1, none⟩ = some (cs[1]'(by omega)) := (h5.cell 1).trans (by simp [h4])
  exact ⟨h', h3, by unfold cellV; rw [e0]; rfl, by unfold cellV; rw [e1]; rfl, h5.frozen 0, h5.frozen 1⟩
end
theorem wval_is (x : Int) (b : Bool) (h : wi x 0 16777216 = b) (w : World) :
    Calls Try.prog 12 #[.int .i64 x] w fun e w' => e = .returned (.bool b) ∧ w = w' := by
  subst h; exact lval_any x w
def PushIs (cap : Int) (l : List Int) (n : Nat) (w : World) (e : Ending) (w' : World) : Prop :=
  ∃ A c, e = .returned (.tuple #[.agg #[.int .i64 cap, .slice A n c], .int .i64 0]) ∧ w'.ownsRow w.heap.size 3 1 (.slice A n c) n (cellsI l) ∧ Below w.heap.size w w'

















































































































































































































end Go.Proofs.Yteojecbmmijccaa
