/- A whole array stored into a block that is known whole. -/
import Derived.Test.YthimchhnhhchkaaGreatDoorM04
import Derived.Deep.WholeRow
namespace Go.Proofs.YthimchhnhhchkaaGreatDoor
open Go.RowKit
set_option linter.unusedSimpArgs false
set_option linter.unusedVariables false
section
variable {P : Program}
theorem wpList_store_row {ops : Array Oper} {rest : List Oper} {op : Oper} {a : Act} {w : World} {Q : Exit → Act → World → Prop} (hgd : op.guard = none) (ty : TypeId) (x y : Operand) (ho : op.op = .store ty x y)
    (g : Nat) (old cells : Array Value) (t : TypeId) (hx : a.eval x = .pointer (some ⟨g, 0, none⟩)) (hy : a.eval y = .agg cells)
    (hg : w.heap[g]? = some (.cells old t (0, 0))) (hi : (P.info? ty).map (·.size) = some cells.size) (hsz : old.size = cells.size) (h1 : cells.all (·.oneCell') = true)
    (h : wpList P ops Q rest (a.put op.dst undef) (w.setRow g cells)) : wpList P ops Q (op :: rest) a w :=
  wpList_plain hgd fun _ hK => by
    unfold Oper.wp execOp
    simp only [ho, hx, hy, Instr.storeAt, Instr.sureAddr, Sem.run_bind, Sem.run_pure, Result.andThen_ok, run_storeVar_row w g t ty old cells hg hi hsz h1]
    exact hK _ _ h
end
theorem below_row {B g : Nat} {w0 w : World} (hb : Below B w0 w) (hBg : B ≤ g) (cs : Array Value) : Below B w0 (w.setRow g cs) :=
  hb.trans ⟨rfl, rfl, rfl, by simp, fun k hk => setRow_other w g k cs (by omega)⟩
theorem Env.setRow {w0 W : World} {l : List (Nat × TypeId × Array Value)} {g : Nat} {t : TypeId} {cs : Array Value} (h : Env w0 W ((g, t, cs) :: l)) (hd : ∀ x ∈ l, x.1 ≠ g) (c' : Array Value) :
    Env w0 (W.setRow g c') ((g, t, c') :: l) := by
  have hg := (h.2 _ (List.mem_cons_self ..)).1
  refine ⟨below_row h.1 hg _, fun x hx => ?_⟩
  rcases List.mem_cons.1 hx with rfl | hx
  · exact ⟨hg, setRow_heap W g cs c' t (0, 0) h.hd⟩
  · have := h.2 x (List.mem_cons_of_mem _ hx)
    exact ⟨this.1, (setRow_other W g x.1 c' (hd x hx)).trans this.2⟩
theorem Env.setHd {w0 W : World} {l : List (Nat × TypeId × Array Value)} {g : Nat} {t : TypeId} {cs : Array Value} (h : Env w0 W ((g, t, cs) :: l)) (hd : ∀ x ∈ l, x.1 ≠ g) (i : Nat) (u : Value) :
    Env w0 (W.setCell ⟨g, i, none⟩ u) ((g, t, cs.setIfInBounds i u) :: l) := by
  have hg := (h.2 _ (List.mem_cons_self ..)).1
  refine ⟨h.1.setCell hg _, fun x hx => ?_⟩
  rcases List.mem_cons.1 hx with rfl | hx
  · exact ⟨hg, h.hd.set_ i u⟩
  · have := h.2 x (List.mem_cons_of_mem _ hx)
    exact ⟨this.1, this.2.far (p := ⟨g, i, none⟩) (hd x hx) u⟩
end Go.Proofs.YthimchhnhhchkaaGreatDoor
