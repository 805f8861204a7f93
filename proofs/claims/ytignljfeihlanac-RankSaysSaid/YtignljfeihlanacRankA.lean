/- rank.Sort, Rank, Far, walked. -/
import Derived.Test.YtignljfeihlanacSortSeq
import Derived.Test.YtignljfeihlanacFadeVals
import Derived.Deep.DeepCutAuto
namespace Go.Proofs.Ytignljfeihlanac
open Go.RowKit
set_option linter.unusedSimpArgs false
set_option linter.unusedVariables false

theorem rsort_err (A : Option Addr) (c B n : Nat) (l : List Int) (hn : l.length = n) (e : Int) (he : listE l = e) (hz : e ≠ 0) (hm : n ≤ maxLen) (w : World) (hr : Reads w B 1 A n (cellsI l)) :
    Calls Try.prog 4 #[.slice A n c] w fun e' w' => e' = .returned (.tuple #[.slice none 0 0, .int .i64 e]) ∧ w = w' := by
  have HN := Lib.hid hn
  have HE := Lib.hid he
  have HR := Lib.hid hr
  clear hn he hr
  go_enter Try.func4, Try.ntmps4
  go_wp2_with fail
  refine (wlist_is _ _ _ l n HN.out _ HE.out hm _ HR.out).mono ?_
  rintro e' w' ⟨rfl, rfl⟩
  go_wp2
  refine bodyPost_ret (v := .tuple #[.slice none 0 0, .int .i64 e]) (by simp [results, Try.results4, go_sem]) rfl ⟨rfl, rfl⟩

def SortIs (T : List Int) (n : Nat) (w : World) (e : Ending) (w' : World) : Prop := ∃ A' c', e = .returned (.tuple #[.slice A' n c', .int .i64 0]) ∧ w'.ownsRow w.heap.size 3 1 (.slice A' n c') n (cellsI T) ∧ Below w.heap.size w w'

set_option maxHeartbeats 1000000 in
theorem rsort_ok (A : Option Addr) (c B n : Nat) (l T : List Int) (hT : So.IsSort l T) (hn : l.length = n) (he : listE l = 0) (hm : n ≤ maxLen) (w : World) (hr : Reads w B 1 A n (cellsI l)) (hB : B ≤ w.heap.size) :
    Calls Try.prog 4 #[.slice A n c] w (SortIs T n w) := by
  have h64 : n ≤ 64 := by rw [← hn]; exact (listE_zero he).1
  have HN := Lib.hid hn
  have HE := Lib.hid he
  have HR := Lib.hid hr
  have HB := Lib.hid hB
  have HS := Lib.hid (sorted_vals w.heap.size B n c A l T hT hn (by omega) (w.alloc (.cells #[.slice A n c] 22)) (by simp) (by simp; omega) (by simp [go_sem]) (hr.alloc hB _))
  have HS2 := Lib.hid (show Below w.heap.size w (w.alloc (.cells #[.slice A n c] 22)) from (Below.refl _ w).alloc (Nat.le_refl _) _)
  clear hn he hr hT hB
  go_enter Try.func4, Try.ntmps4
  go_wp2_with fail
  refine (wlist_is _ _ _ l n HN.out _ HE.out hm _ HR.out).mono ?_
  rintro e' w' ⟨rfl, rfl⟩
  go_wp2_with fail
  refine (values_any _ _ _ _).mono ?_
  rintro e' w1 ⟨rfl, rfl⟩
  go_wp2_with fail
  refine HS.out.mono ?_
  rintro e' w2 ⟨A', c', rfl, hrow, hb⟩
  have HO := Lib.hid hrow
  have HBL := Lib.hid hb
  clear hrow hb
  go_wp2
  refine bodyPost_ret (v := .tuple #[.slice A' n c', .int .i64 0]) (by simp [results, Try.results4, go_sem]) rfl ?_
  exact ⟨A', c', rfl, ownsRow_base HO.out (by simp), HS2.out.trans (HBL.out.mono (by simp))⟩
end Go.Proofs.Ytignljfeihlanac
