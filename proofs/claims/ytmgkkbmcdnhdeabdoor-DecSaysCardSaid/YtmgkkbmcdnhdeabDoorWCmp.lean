/- wide.Cmp. -/
import Derived.Test.YtmgkkbmcdnhdeabDoorW0
import Derived.Test.YtmgkkbmcdnhdeabDoorRcmp
namespace Go.Proofs.YtmgkkbmcdnhdeabDoor
open Go.RowKit
set_option linter.unusedSimpArgs false
set_option linter.unusedVariables false

theorem hilo_lt (a b : Nat) : a < b ↔ (hiN a < hiN b ∨ (hiN a = hiN b ∧ loN a < loN b)) := by unfold hiN loN; omega
theorem hilo_eq (a b : Nat) : a = b ↔ (hiN a = hiN b ∧ loN a = loN b) := by unfold hiN loN; omega

set_option maxHeartbeats 1000000 in
theorem wide_cmp (ah al bh bl : Int) (a b : Nat) (ha : WN ah al a) (hb : WN bh bl b) (w : World) :
    Calls Tryd.prog 29 #[.agg #[.int .u64 ah, .int .u64 al], .agg #[.int .u64 bh, .int .u64 bl]] w fun e w' => e = .returned (.int .i64 (cmpN a b)) ∧ Below w.heap.size w w' := by
  obtain ⟨rfl, rfl, ha⟩ := ha
  obtain ⟨rfl, rfl, hb⟩ := hb
  have hl := hilo_lt a b
  have he := hilo_eq a b
  have hbel : ∀ o1 o2, Below w.heap.size w ((w.alloc o1).alloc o2) := fun o1 o2 => ((Below.refl _ _).alloc (Nat.le_refl _) _).alloc (by simp) _
  have HBE := Lib.hid hbel
  clear ha hb hbel
  by_cases h1 : hiN a = hiN b
  · by_cases h2 : loN a = loN b
    · have h3 : a = b := he.2 ⟨h1, h2⟩
      subst h3
      clear hl he h1 h2
      go_enter Tryd.func29, Tryd.ntmps29
      go_wp2
      go_ret
      exact ⟨ret_int (by simp [cmpN]), HBE.out _ _⟩
    · have h2b : (loN a == loN b) = false := by simpa using h2
      rw [h1]
      have HL := Lib.hid hl
      have HE := Lib.hid he
      have H1 := Lib.hid h1
      have H2 := Lib.hid h2
      rcases Int.lt_or_gt_of_ne h2 with h3 | h3
      · clear hl he h1 h2
        go_enter Tryd.func29, Tryd.ntmps29
        go_wp2
        go_ret
        have : a < b := HL.out.2 (.inr ⟨H1.out, h3⟩)
        exact ⟨ret_int (by simp [cmpN, this]), HBE.out _ _⟩
      · clear hl he h1 h2
        go_enter Tryd.func29, Tryd.ntmps29
        go_wp2
        go_ret
        have h4 : ¬ a < b := fun h => by
          have := HL.out.1 h
          have := H1.out
          omega
        have h5 : a ≠ b := fun h => H2.out (HE.out.1 h).2
        have h6 : b < a := by omega
        exact ⟨ret_int (by simp [cmpN, h4, h6]), HBE.out _ _⟩
  · have h2b : (hiN a == hiN b) = false := by simpa using h1
    have HL := Lib.hid hl
    have HE := Lib.hid he
    have H1 := Lib.hid h1
    rcases Int.lt_or_gt_of_ne h1 with h3 | h3
    · clear hl he h1
      go_enter Tryd.func29, Tryd.ntmps29
      go_wp2
      go_ret
      have : a < b := HL.out.2 (.inl h3)
      exact ⟨ret_int (by simp [cmpN, this]), HBE.out _ _⟩
    · clear hl he h1
      go_enter Tryd.func29, Tryd.ntmps29
      go_wp2
      go_ret
      have h4 : ¬ a < b := fun h => by
        have := HL.out.1 h
        omega
      have h5 : a ≠ b := fun h => H1.out (HE.out.1 h).1
      have h6 : b < a := by omega
      exact ⟨ret_int (by simp [cmpN, h4, h6]), HBE.out _ _⟩

end Go.Proofs.YtmgkkbmcdnhdeabDoor
