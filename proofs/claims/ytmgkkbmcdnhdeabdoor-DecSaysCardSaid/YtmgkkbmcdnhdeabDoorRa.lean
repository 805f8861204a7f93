/- The reference's Bits. -/
import Derived.Test.YtmgkkbmcdnhdeabDoorRa0
namespace Go.Proofs.YtmgkkbmcdnhdeabDoor
open Go.RowKit
set_option linter.unusedSimpArgs false
set_option linter.unusedVariables false

set_option maxHeartbeats 800000 in
set_option maxRecDepth 100000 in
theorem bits_any (n : Nat) (hn : n < 2 ^ 128) (w : World) :
    Calls Tryd.prog 13 #[.agg #[.int .u64 (hiN n), .int .u64 (loN n)]] w (NewBits (fun l => l = Bt.bits n) w) := by
  obtain ⟨i0, hi, hz0, hz1, hz2⟩ := info_parts Tryd.info4
  go_enter Tryd.func13, Tryd.ntmps13
  go_wp2
  go_loopw [3] (fun v wr => ∃ (m : Nat) (l : List Bool), m < 2 ^ 128 ∧ wr.ownsRow (w.heap.size + 1) 4 1 v l.length (l.map Value.bool) ∧ Blk wr w.heap.size 24 #[.int .u64 (hiN m), .int .u64 (loN m)] ∧ Below w.heap.size w wr ∧ l ++ Bt.bits m = Bt.bits n)
    (fun v _ => 200 - lenOf v)
  case atStart => exact ⟨n, [], hn, World.ownsRow_nil _ _ _ _, Blk.new _ _ _, (Below.refl _ _).alloc (Nat.le_refl _) _, rfl⟩
  case round =>
    obtain ⟨m, l, hm, hown, hblk, hbel, hl⟩ := hrel
    have c0 := hblk.cell 0
    have c1 := hblk.cell 1
    simp at c0 c1
    have f0 := hblk.frozen 0
    have f1 := hblk.frozen 1
    have hsz := hblk.lt
    have HM := Lib.hid hm
    have HL := Lib.hid hl
    have g0 : 0 ≤ hiN m := by unfold hiN; omega
    have g1 : 0 ≤ loN m := by unfold loN; omega
    have g2 : loN m ≤ 18446744073709551615 := by unfold loN; omega
    have g3 : hiN m ≤ 18446744073709551615 := by unfold hiN; omega
    have hlen : l.length ≤ 128 := by
      have := congrArg List.length hl
      have h2 := Bt.len_bits n
      have h3 := Bt.blen_le hn
      simp at this; omega
    clear hm hl hn
    by_cases h0 : hiN m = 0 ∧ loN m = 0
    · obtain ⟨h1, h2⟩ := h0
      go_wp2
      go_ret
      have hm0 := zero_of_words h1 h2
      subst hm0
      have e := HL.out
      rw [Bt.bits_zero, List.append_nil] at e
      obtain ⟨A, c, hv⟩ := ownsRow_len hown
      subst hv
      exact ⟨A, c, l, rfl, e, ownsRow_base hown (by omega), hbel⟩
    · have hcase : ((hiN m == 0) = true ∧ (loN m == 0) = false) ∨ (hiN m == 0) = false := by
        by_cases h1 : hiN m = 0
        · left; simp [h1]; intro h2; exact h0 ⟨h1, h2⟩
        · right; simpa using h1
      clear h0
      rcases hcase with ⟨t1, t2⟩ | t1
      all_goals
        go_wp2_with (at_builtin; refine wpList_app1 _ rfl _ _ 33 rfl (w.heap.size + 1) 4 i0 (.bool false) 1 Tryd.underlying33 hi hz0 hz1 hz2 rfl _ _ _ rfl hown _ _ rfl rfl ?c1 ?c2 ?c3 ?_)
        case c1 => omega
        case c2 => unfold maxLen; omega
        case c3 => omega
        intro v' w1 hown1 hb1
        have hblk1 := hblk.below hb1 (by omega)
        have d0 := hblk1.cell 0
        have d1 := hblk1.cell 1
        simp at d0 d1
        have e0 := hblk1.frozen 0
        have e1 := hblk1.frozen 1
        clear c0 c1 f0 f1
        go_wp2
        go_roundw
        case rel =>
          have hmp : 0 < m := by
            rcases Nat.eq_zero_or_pos m with h | h
            · subst h; simp [hiN, loN] at *
            · exact h
          refine ⟨m / 2, l ++ [m % 2 == 1], ?_, ?_, ?_, ?_, ?_⟩
          · have := HM.out; omega
          · have h2 := ownsRow_setCell (ownsRow_setCell hown1 (a := ⟨w.heap.size, 1, none⟩) (by simp) (Value.int .u64 (loN (m / 2)))) (a := ⟨w.heap.size, 0, none⟩) (by simp) (Value.int .u64 (hiN (m / 2)))
            rw [loN_half, hiN_half, List.length_append, List.map_append, ← loN_odd]
            exact h2
          · have h2 := (hblk1.set_ 1 (Value.int .u64 (loN (m / 2)))).set_ 0 (Value.int .u64 (hiN (m / 2)))
            rw [loN_half, hiN_half]
            exact h2
          · exact ((hbel.trans (hb1.mono (by omega))).setCell (by simp) _).setCell (by simp) _
          · rw [← HL.out, Bt.bits_pos m hmp]; simp
        case measure =>
          obtain ⟨A, c, hv⟩ := ownsRow_len hown
          obtain ⟨A', c', hv'⟩ := ownsRow_len hown1
          rw [hv, hv']; simp [lenOf]; omega

end Go.Proofs.YtmgkkbmcdnhdeabDoor
