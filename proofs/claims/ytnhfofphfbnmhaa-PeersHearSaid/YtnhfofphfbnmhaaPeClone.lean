/- slices.Clone of peers, walked. -/
import Derived.Test.YtnhfofphfbnmhaaPeOrd
namespace Go.Proofs.Ytnhfofphfbnmhaa
open Go.RowKit Go.Lib
set_option linter.unusedSimpArgs false
set_option linter.unusedVariables false

set_option maxHeartbeats 1000000 in
set_option maxRecDepth 100000 in
theorem clone_peers (b off c B n : Nat) (l : List PeerT) (hm : n ≤ 1000) (hn : 0 < n) (w : World) (hp : Peers w B (some ⟨b, off, none⟩) n l) (hB : B ≤ w.heap.size) :
    Calls Try.prog 22 #[.slice (some ⟨b, off, none⟩) n c] w fun e w' => ∃ A' c', e = .returned (.slice A' n c') ∧ w'.ownsRow w.heap.size 42 7 (.slice A' n c') n (cellsP l) ∧ Below w.heap.size w w' := by
  obtain ⟨i0, hi, hz0, hz1, hz2⟩ := info_parts peer_info
  have hnil := fun w => Lib.run_eql_slice_nil (P := Try.prog) w 22 42 (some ⟨b, off, none⟩) n c 0 0 Try.underlying22
  have hown : (w.alloc (.cells #[] 42)).ownsRow w.heap.size 42 7 (.slice (some ⟨w.heap.size, 0, none⟩) 0 0) 0 [] :=
    ⟨rfl, .inr ⟨w.heap.size, 0, #[], rfl, Nat.le_refl _, heap_alloc_new w _, Nat.le_refl _, by unfold maxLen; omega, rfl, rfl⟩⟩
  have HO := Lib.hid hown
  have HRA := Lib.hid (hp.row.alloc hB (.cells #[] 42))
  clear hp hB hown
  go_enter Try.func22, Try.ntmps22
  go_wp2_with (at_builtin; refine wpList_appN _ rfl _ _ 22 rfl w.heap.size 42 i0 _ 7 80 Try.underlying22 hi hz0 hz1 hz2 rfl (by decide) _ _ _ rfl HO.out _ _ _ _ _ rfl HRA.out (oneCell_peers l) ?c1 ?c2 ?c3 ?_)
  case c1 => unfold maxLen; omega
  case c2 => omega
  case c3 => simp
  intro v' w2 hown2 hb2
  obtain ⟨A2, c2, rfl⟩ := ownsRow_len hown2
  go_wp2
  go_ret
  exact ⟨A2, c2, rfl, hown2, ((Below.refl _ _).alloc (Nat.le_refl _) _).trans hb2⟩
end Go.Proofs.Ytnhfofphfbnmhaa
