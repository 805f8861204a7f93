/- A text cut at a byte, plainly. -/
import Derived.Test.YthimchhnhhchkaaGreatDoorM04
import Derived.Lib.SplitLaws
namespace Go.Proofs.YthimchhnhhchkaaGreatDoor
open Go.RowKit Go.Lib
set_option linter.unusedSimpArgs false
set_option linter.unusedVariables false

def splC (c : UInt8) : List UInt8 → List (List UInt8)
  | [] => [[]]
  | b :: l => if b = c then [] :: splC c l else match splC c l with
    | [] => [[b]]
    | h :: t => (b :: h) :: t
theorem splK_is (c : UInt8) : ∀ l : List UInt8, Lib.splitK [c] 0 (Lib.count l [c]) l = splC c l
  | [] => by rw [Lib.count_miss (by simp [Lib.index])]; rfl
  | b :: l => by
    have ih := splK_is c l
    by_cases h : b = c
    · subst h
      have hix : Lib.index (b :: l) [b] = 0 := by rw [Lib.index]; simp [List.isPrefixOf]
      rw [Lib.count_cons_eq, Nat.add_comm]
      unfold Lib.splitK splC
      rw [hix, if_pos rfl, if_neg (by decide), ← ih]
      simp
    · have hp : ([c] : List UInt8).isPrefixOf (b :: l) = false := by simp [List.isPrefixOf, Ne.symm h]
      have hix : Lib.index (b :: l) [c] = if Lib.index l [c] == -1 then -1 else Lib.index l [c] + 1 := by rw [Lib.index, hp]; simp
      rw [Lib.count_cons_ne b c l h]
      unfold splC
      rw [if_neg h, ← ih]
      have hge := Lib.index_ge l [c]
      by_cases hm : Lib.index l [c] = -1
      · rw [Lib.count_miss hm]
        rfl
      · obtain ⟨j, hj⟩ : ∃ j : Nat, Lib.index l [c] = j := ⟨(Lib.index l [c]).toNat, by omega⟩
        rw [Lib.count_hit (by simp) hj, Nat.add_comm]
        unfold Lib.splitK
        rw [hix, hj]
        have e1 : (((j : Nat) : Int) == -1) = false := by first | (simp; omega) | simp
        have e2 : ((((j : Nat) : Int) + 1) == -1) = false := by first | (simp; omega) | simp
        have e3 : (((j : Nat) : Int) + 1).toNat = j + 1 := by omega
        simp [e1, e2, e3]
/-- what strings.Split gives -/
theorem spl_eq (c : UInt8) (s : ByteArray) : Lib.splitB ⟨#[c]⟩ 0 (Lib.countB s ⟨#[c]⟩) s = (splC c s.data.toList).map fun l => (⟨l.toArray⟩ : ByteArray) := by
  have h := Lib.splitB_data ⟨#[c]⟩ 0 (Lib.countB s ⟨#[c]⟩) s
  have e : Lib.splitK ([c] : List UInt8) 0 (Lib.countB s ⟨#[c]⟩) s.data.toList = splC c s.data.toList := splK_is c s.data.toList
  have h2 : (Lib.splitB ⟨#[c]⟩ 0 (Lib.countB s ⟨#[c]⟩) s).map (·.data.toList) = splC c s.data.toList := h.trans e
  rw [← h2, List.map_map]
  have e3 : ((fun l => (⟨l.toArray⟩ : ByteArray)) ∘ fun x : ByteArray => x.data.toList) = id := by
    funext x
    simp
  rw [e3, List.map_id]
end Go.Proofs.YthimchhnhhchkaaGreatDoor
