/- slices.Equal and slices.Clone over ints. (with what it needs) -/
import Derived.Test.YtkgekhabafjpiabM05
import Derived.Laws.OwnMore
import Derived.Test.YtkgekhabafjpiabM06
import Derived.Test.YtkgekhabafjpiabM08
namespace Go.Proofs.Ytkgekhabafjpiab
open Go.RowKit
set_option linter.unusedSimpArgs false
set_option linter.unusedVariables false

theorem take_eq_step {l m : List Int} {k : Nat} (hl : k < l.length) (hm : k < m.length) (h : l.take k = m.take k) (he : l.getD k 0 = m.getD k 0) : l.take (k + 1) = m.take (k + 1) := by
  rw [List.take_add_one, List.take_add_one, h, List.getElem?_eq_getElem hl, List.getElem?_eq_getElem hm]
  simp [List.getD, List.getElem?_eq_getElem hl, List.getElem?_eq_getElem hm] at he
  rw [he]
theorem ne_at {l m : List Int} {k : Nat} (he : l.getD k 0 ≠ m.getD k 0) : l ≠ m := fun h => he (by rw [h])



























































































end Go.Proofs.Ytkgekhabafjpiab

namespace Go.Proofs.Ytkgekhabafjpiab
open Go.RowKit
set_option linter.unusedSimpArgs false
set_option linter.unusedVariables false

theorem int_info : (Try.prog.info? 3).map (fun i => (i.zero, i.size, i.bytes)) = some (some (.int .i64 0), 1, 8) := by kernel_rfl
theorem oneCell_ints (l : List Int) : ∀ u ∈ cellsI l, u.oneCell' = true := by
  intro u hu
  obtain ⟨x, _, rfl⟩ := List.mem_map.1 hu
  rfl
/-- a new list of numbers, in memory of the call's own -/
def NewInts (l : List Int) (w : World) (e : Ending) (w' : World) : Prop := ∃ A c, e = .returned (.slice A l.length c) ∧ w'.ownsRow w.heap.size 3 1 (.slice A l.length c) l.length (cellsI l) ∧ Below w.heap.size w w'

set_option maxRecDepth 100000 in
set_option maxHeartbeats 1000000 in
theorem clone_any (A : Option Addr) (c B n : Nat) (l : List Int) (hn : l.length = n) (h64 : n ≤ 100000) (w : World) (hr : Reads w B 1 A n (cellsI l)) (hB : B ≤ w.heap.size) :
    Calls Try.prog 51 #[.slice A n c] w (NewInts l w) := by
  have HN := Lib.hid hn
  have HR := Lib.hid hr
  have HBB := Lib.hid hB
  rcases A with _ | ad
  · have hl : l = [] := by
      rcases Nat.eq_zero_or_pos n with h | h
      · exact List.eq_nil_of_length_eq_zero (by omega)
      · obtain ⟨ad, h', _⟩ := hr.2 h; cases h'
    subst hl
    obtain rfl : n = 0 := hn.symm
    have hnil := fun w => Lib.run_eql_slice_nil (P := Try.prog) w 22 3 none 0 c 0 0 Try.underlying22
    clear hr hB h64
    go_enter Try.func51, Try.ntmps51
    go_wp2
    go_ret
    exact ⟨none, 0, rfl, World.ownsRow_nil _ _ _ _, Below.refl _ _⟩
  · have hnil := fun w => Lib.run_eql_slice_nil (P := Try.prog) w 22 3 (some ad) n c 0 0 Try.underlying22
    obtain ⟨i0, hi, hz0, hz1, hz2⟩ := info_parts int_info
    have hown : (w.alloc (.cells #[] 3)).ownsRow w.heap.size 3 1 (.slice (some ⟨w.heap.size, 0, none⟩) 0 0) 0 [] :=
      ⟨rfl, .inr ⟨w.heap.size, 0, #[], rfl, Nat.le_refl _, heap_alloc_new w _, Nat.le_refl _, by unfold maxLen; omega, rfl, rfl⟩⟩
    have HO := Lib.hid hown
    have HRA := Lib.hid (hr.alloc hB (.cells #[] 3))
    clear hn hr hB hown
    go_enter Try.func51, Try.ntmps51
    go_wp2_with (at_builtin; refine wpList_appN _ rfl _ _ 22 rfl w.heap.size 3 i0 (.int .i64 0) 1 8 Try.underlying22 hi hz0 hz1 hz2 rfl (by decide) _ _ _ rfl HO.out _ _ _ _ _ rfl HRA.out (oneCell_ints l) ?c1 ?c2 ?c3 ?_)
    case c1 => unfold maxLen; omega
    case c2 => omega
    case c3 => simp
    intro v' w2 hown2 hb2
    obtain ⟨A2, c2, rfl⟩ := ownsRow_len hown2
    go_wp2
    go_ret
    have hl : n = l.length := HN.out.symm
    refine ⟨A2, c2, by rw [← hl]; rfl, ?_, ((Below.refl _ _).alloc (Nat.le_refl _) _).trans hb2⟩
    rw [← hl]
    simpa using hown2
end Go.Proofs.Ytkgekhabafjpiab

namespace Go.Proofs.Ytkgekhabafjpiab
open Go.RowKit
set_option linter.unusedSimpArgs false
set_option linter.unusedVariables false



















end Go.Proofs.Ytkgekhabafjpiab
