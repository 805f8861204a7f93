/- The reference's Moved. -/
import Derived.Test.YtmgkkbmcdnhdeabDoorRmade
namespace Go.Proofs.YtmgkkbmcdnhdeabDoor
open Go.RowKit
set_option linter.unusedSimpArgs false
set_option linter.unusedVariables false

set_option maxHeartbeats 800000 in
set_option maxRecDepth 100000 in
theorem moved_any (A : Option Addr) (la : List Bool) (ca : Nat) (w : World) (ha : Reads w w.heap.size 1 A la.length (la.map Value.bool)) (la1 : la.length ≤ 1000000) (n : Int) (h0 : 0 ≤ n) (h1 : n ≤ 1000000) :
    Calls Tryd.prog 28 #[.slice A la.length ca, .int .i64 n] w (NewBits (fun l => l = List.replicate n.toNat false ++ la) w) := by
  obtain ⟨i0, hi, hz0, hz1, hz2⟩ := info_parts Tryd.info4
  obtain ⟨m, rfl⟩ := Int.eq_ofNat_of_zero_le h0
  rw [Int.toNat_natCast]
  have HA := Lib.hid ha
  clear ha
  go_enter Tryd.func28, Tryd.ntmps28
  go_wp2_with (at_make; refine wpList_make_full w rfl _ _ _ rfl w.heap.size 4 i0 (.bool false) 1 Tryd.underlying33 hi hz0 hz1 .i64 .i64 _ _ m rfl rfl rfl rfl ?c1 ?c2 ?c3 ?_)
  case c1 => rw [hz2]; omega
  case c2 => unfold maxLen; omega
  case c3 => omega
  intro w1 hown hg
  rw [madeBools] at hown
  have hbel : Below w.heap.size w w1 := ⟨hg.os, hg.tape, hg.output, hg.size, fun k hk => hg.block k hk (by simp)⟩
  have HR := HA.out.below hbel (Nat.le_refl _)
  have hsz := hg.size
  have HB := Lib.hid hbel
  clear hbel hg
  go_wp2_with (at_builtin; refine wpList_appN w1 rfl _ _ 33 rfl w.heap.size 4 i0 (.bool false) 1 1 Tryd.underlying33 hi hz0 hz1 hz2 rfl (by decide) _ _ _ rfl hown _ _ _ _ _ rfl HR (oneCell_bools _) ?c1 ?c2 ?c3 ?_)
  case c1 => unfold maxLen; omega
  case c2 => omega
  case c3 => omega
  intro v' w2 hown2 hb2
  obtain ⟨A2, c2, rfl⟩ := ownsRow_len hown2
  go_wp2
  go_ret
  have hl : (List.replicate m false ++ la).length = m + la.length := by simp
  refine ⟨A2, c2, _, by rw [hl]; rfl, rfl, ?_, HB.out.trans hb2⟩
  rw [hl, List.map_append, List.map_replicate]
  exact hown2

end Go.Proofs.YtmgkkbmcdnhdeabDoor
