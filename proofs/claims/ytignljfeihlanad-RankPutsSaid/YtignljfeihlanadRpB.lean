/- slices.Grow of nil and slices.Concat of two lists of ints, walked. -/
import Derived.Test.YtignljfeihlanadRpA
import Derived.Deep.DeepCutAuto
namespace Go.Proofs.Ytignljfeihlanad
open Go.RowKit Go.Shelf
set_option linter.unusedSimpArgs false
set_option linter.unusedVariables false

theorem grow_nil (n : Nat) (hm : n ≤ 1000000) (w : World) :
    Calls Try.prog 19 #[.slice none 0 0, .int .i64 n] w fun e w' => ∃ A c, e = .returned (.slice A 0 c) ∧ w'.ownsRow w.heap.size 3 1 (.slice A 0 c) 0 [] ∧ Below w.heap.size w w' := by
  rcases Nat.eq_zero_or_pos n with h | h
  · subst h
    refine (Any8.slices_Grow_room Try.laysGrow none 0 0 0 w (by omega) (by omega) (by omega) (by omega)).mono ?_
    rintro e w' ⟨rfl, rfl⟩
    exact ⟨none, 0, rfl, World.ownsRow_nil _ _ _ _, Below.refl _ _⟩
  · obtain ⟨i0, hi, hz0, hz1, hz2⟩ := info_parts int_info
    refine (Any8.slices_Grow_grow Try.laysGrow i0 (.int .i64 0) hi hz0 (by omega) none 0 0 n [] w (by omega) (by omega) (by rw [hz2]; omega) (by omega) (by simp) (fun _ => rfl) (fun a h => by cases h)).mono ?_
    rintro e w' ⟨rfl, rfl⟩
    have hge := grownCap_ge w (0 + n) 0 (Try.laysGrow_ren.t 25)
    refine ⟨_, _, rfl, ⟨rfl, .inr ⟨w.heap.size, _, _, rfl, Nat.le_refl _, heap_alloc_new w.drew _, by omega, grownCap_le_maxLen _ _ _ _ (by unfold maxLen; omega), ?_, rfl⟩⟩, (Below.refl _ w).drew.alloc (Nat.le_refl _) _⟩
    simp only [Array.size_append, size_zeroCells]
    have h1 : (Value.int .i64 0).cells.size = 1 := rfl
    rw [h1]
    simp only [List.size_toArray, List.length_nil, Nat.mul_one]
    omega

set_option maxHeartbeats 2000000 in
theorem concat_two (A1 A2 : Option Addr) (n1 n2 c1 c2 B bs : Nat) (l1 l2 : List Int) (h1 : l1.length = n1) (h2 : l2.length = n2) (hm1 : n1 ≤ 1000) (hm2 : n2 ≤ 1000) (w : World)
    (hr1 : Reads w B 1 A1 n1 (cellsI l1)) (hr2 : Reads w B 1 A2 n2 (cellsI l2)) (hB : B ≤ w.heap.size) (hb : Blk w bs 22 #[.slice A1 n1 c1, .slice A2 n2 c2]) :
    Calls Try.prog 11 #[.slice (some ⟨bs, 0, none⟩) 2 2] w (RowIs (l1 ++ l2) (n1 + n2) w.heap.size w) := by
  have HR1 := Lib.hid hr1
  have HR2 := Lib.hid hr2
  have b0 := hb.cell 0
  have b1 := hb.cell 1
  have p0 := hb.lt
  simp at b0 b1
  have HG := Lib.hid (show ∀ w, Calls Try.prog 19 #[.slice none 0 0, .int .i64 ((n1 : Int) + n2)] w fun e w' => ∃ A c, e = .returned (.slice A 0 c) ∧ w'.ownsRow w.heap.size 3 1 (.slice A 0 c) 0 [] ∧ Below w.heap.size w w' from fun w => by
    have := grow_nil (n1 + n2) (by omega) w
    rw [Int.natCast_add] at this
    exact this)
  clear hr1 hr2
  go_enter Try.func11, Try.ntmps11
  go_wp2_with fail
  go_loop [3, 11] (fun s k => (s = .int .i64 0 ∧ k = .int .i64 0) ∨ (s = .int .i64 n1 ∧ k = .int .i64 1) ∨ (s = .int .i64 ((n1 : Int) + n2) ∧ k = .int .i64 2)) (fun s k => 2 - (intOf k).toNat)
  case atStart => exact .inl ⟨rfl, rfl⟩
  case round =>
    rcases hrel with ⟨rfl, rfl⟩ | ⟨rfl, rfl⟩ | ⟨rfl, rfl⟩
    · go_wp2
      exact ⟨.inr (.inl ⟨rfl, rfl⟩), by simp [intOf]⟩
    · go_wp2
      exact ⟨.inr (.inr ⟨rfl, rfl⟩), by simp [intOf]⟩
    · go_wp2_with fail
      refine (HG.out w).mono ?_
      rintro e' w2 ⟨A, c, rfl, ho, hb2⟩
      have B2 := Lib.hid hb2
      have HO := Lib.hid ho
      clear hb2 ho
      go_wp2_with fail
      go_loopw [6, 27] (fun v k wr => Below w.heap.size w wr ∧ ∃ A c m xs, v = .slice A m c ∧ wr.ownsRow w.heap.size 3 1 (.slice A m c) m xs ∧
        ((k = .int .i64 0 ∧ m = 0 ∧ xs = []) ∨ (k = .int .i64 1 ∧ m = n1 ∧ xs = cellsI l1) ∨ (k = .int .i64 2 ∧ m = n1 + n2 ∧ xs = cellsI (l1 ++ l2)))) (fun v k _ => 2 - (intOf k).toNat)
      case atStart => exact ⟨B2.out, A, c, 0, [], rfl, HO.out, .inl ⟨rfl, rfl, rfl⟩⟩
      case round =>
        obtain ⟨hbw, A', c', m, xs, rfl, hown, hr⟩ := hrel
        have HW := Lib.hid hbw
        have HOW := Lib.hid hown
        have R1 := Lib.hid (HR1.out.below hbw hB)
        have R2 := Lib.hid (HR2.out.below hbw hB)
        have HBR := Lib.hid (hb.below hbw p0)
        have b0 := HBR.out.cell 0
        have b1 := HBR.out.cell 1
        have p0' := HBR.out.lt
        simp at b0 b1
        obtain ⟨i0, hi, hz0, hz1, hz2⟩ := info_parts int_info
        clear hbw hown B2 HO
        rcases hr with ⟨rfl, rfl, rfl⟩ | ⟨rfl, rfl, rfl⟩ | ⟨rfl, rfl, rfl⟩
        · go_wp2_with (at_builtin; refine wpList_appN _ rfl _ _ 22 rfl w.heap.size 3 i0 (.int .i64 0) 1 8 Try.underlying22 hi hz0 hz1 hz2 rfl (by decide) _ _ _ rfl HOW.out _ _ _ _ _ rfl R1.out (oneCell_ints l1) ?c1 ?c2 ?c3 ?_)
          case c1 => unfold maxLen; omega
          case c2 => omega
          case c3 => exact HW.out.size
          intro v' w3 hown3 hb3
          obtain ⟨A3, c3, rfl⟩ := ownsRow_len hown3
          go_wp2
          exact ⟨⟨HW.out.trans hb3, _, _, _, _, rfl, hown3, .inr (.inl ⟨rfl, by omega, by simp⟩)⟩, by simp [intOf]⟩
        · go_wp2_with (at_builtin; refine wpList_appN _ rfl _ _ 22 rfl w.heap.size 3 i0 (.int .i64 0) 1 8 Try.underlying22 hi hz0 hz1 hz2 rfl (by decide) _ _ _ rfl HOW.out _ _ _ _ _ rfl R2.out (oneCell_ints l2) ?c1 ?c2 ?c3 ?_)
          case c1 => unfold maxLen; omega
          case c2 => omega
          case c3 => exact HW.out.size
          intro v' w3 hown3 hb3
          obtain ⟨A3, c3, rfl⟩ := ownsRow_len hown3
          go_wp2
          exact ⟨⟨HW.out.trans hb3, _, _, _, _, rfl, hown3, .inr (.inr ⟨rfl, rfl, by simp [cellsI]⟩)⟩, by simp [intOf]⟩
        · go_wp2
          go_ret
          exact ⟨_, _, rfl, Reads.of_own HOW.out, HW.out⟩
end Go.Proofs.Ytignljfeihlanad
