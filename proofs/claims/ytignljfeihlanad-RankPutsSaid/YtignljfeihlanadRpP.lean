/- A value put into a sorted list, and cut out of it: the plain law. -/
import Derived.Test.YtignljfeihlanadSortP
namespace Go.Proofs.Ytignljfeihlanad
set_option linter.unusedSimpArgs false
set_option linter.unusedVariables false

theorem split_asc (x : Int) : ∀ l : List Int, l.Pairwise (· ≤ ·) → l.take (l.countP (· < x)) = l.filter (· < x) ∧ l.drop (l.countP (· < x)) = l.filter (fun y => !decide (y < x))
  | [], _ => by simp
  | a :: t, h => by
    obtain ⟨h1, h2⟩ := List.pairwise_cons.1 h
    obtain ⟨i1, i2⟩ := split_asc x t h2
    by_cases ha : a < x
    · rw [List.countP_cons_of_pos (by simpa using ha), List.take_succ_cons, List.drop_succ_cons, i1, i2, List.filter_cons_of_pos (by simpa using ha), List.filter_cons_of_neg (by simpa using ha)]
      exact ⟨rfl, rfl⟩
    · have h0 : (a :: t).countP (· < x) = 0 := by
        rw [List.countP_eq_zero]
        intro y hy
        rcases List.mem_cons.1 hy with rfl | hy
        · simpa using ha
        · have := h1 y hy; simp; omega
      have hf : (a :: t).filter (· < x) = [] := by
        rw [List.filter_eq_nil_iff]
        intro y hy
        rcases List.mem_cons.1 hy with rfl | hy
        · simpa using ha
        · have := h1 y hy; simp; omega
      have hg : (a :: t).filter (fun y => !decide (y < x)) = a :: t := by
        rw [List.filter_eq_self]
        intro y hy
        rcases List.mem_cons.1 hy with rfl | hy
        · simpa using ha
        · have := h1 y hy; simp; omega
      rw [h0, hf, hg]
      exact ⟨rfl, rfl⟩

theorem ins_sort {l : List Int} (h : l.Pairwise (· ≤ ·)) (x : Int) (i : Nat) (hi : l.countP (· < x) = i) : So.IsSort (l ++ [x]) (l.take i ++ x :: l.drop i) := by
  subst hi
  obtain ⟨h1, h2⟩ := split_asc x l h
  refine ⟨?_, ?_⟩
  · rw [List.pairwise_append]
    refine ⟨h.sublist (List.take_sublist _ _), List.pairwise_cons.2 ⟨fun b hb => ?_, h.sublist (List.drop_sublist _ _)⟩, fun a ha b hb => ?_⟩
    · rw [h2] at hb
      have := (List.mem_filter.1 hb).2
      simp at this; omega
    · rw [h1] at ha
      have ha := (List.mem_filter.1 ha).2
      rcases List.mem_cons.1 hb with rfl | hb
      · simp at ha; omega
      · rw [h2] at hb
        have := (List.mem_filter.1 hb).2
        simp at this ha; omega
  · refine (List.perm_middle).trans ?_
    rw [List.take_append_drop]
    exact (List.perm_append_singleton x l).symm

theorem found_at {l : List Int} (h : l.Pairwise (· ≤ ·)) (x : Int) (i : Nat) (hi : l.countP (· < x) = i) (hx : l.contains x = true) : i < l.length ∧ l.getD i 0 = x := by
  have hm : x ∈ l := by simpa using hx
  have hc : 0 < l.count x := List.count_pos_iff.2 hm
  have hlt : l.countP (So.lt x) = i := by rw [← hi]; rfl
  have := (So.place h x i).1 ⟨by omega, by omega⟩
  obtain ⟨h1, h2⟩ := List.getElem?_eq_some_iff.1 this
  exact ⟨h1, by simp [List.getD, List.getElem?_eq_getElem h1, h2]⟩
theorem before_at {l : List Int} (h : l.Pairwise (· ≤ ·)) (x : Int) (i k : Nat) (hi : l.countP (· < x) = i) (hk : k < i) : l.getD k 0 ≠ x := by
  intro he
  have hlt : l.countP (So.lt x) = i := by rw [← hi]; rfl
  have hkl : k < l.length := by have := List.countP_le_length (p := fun y => decide (y < x)) (l := l); omega
  have := (So.place h x k).2 (by rw [So.getD_some hkl, he])
  omega
theorem none_at {l : List Int} (x : Int) (k : Nat) (hx : l.contains x = false) (hk : k < l.length) : l.getD k 0 ≠ x := by
  intro he
  have : x ∈ l := by rw [← he]; simp [List.getD, List.getElem?_eq_getElem hk]
  simp [this] at hx
theorem sorted_iff (l : List Int) : decide (So.srt l = l) = decide (l.Pairwise (· ≤ ·)) := by
  refine decide_eq_decide.2 ⟨fun h => ?_, fun h => ?_⟩
  · rw [← h]; exact (So.srt_is l).1
  · exact So.uniq (So.srt_is l) ⟨h, List.Perm.refl l⟩
end Go.Proofs.Ytignljfeihlanad
