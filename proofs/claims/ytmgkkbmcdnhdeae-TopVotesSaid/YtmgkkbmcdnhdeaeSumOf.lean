/- stat.Of and the reference's Of: sums of a list. -/
import Derived.Test.YtmgkkbmcdnhdeaeFadeVals
import Derived.Test.YtmgkkbmcdnhdeaeSumsD
namespace Go.Proofs.Ytmgkkbmcdnhdeae
open Go.RowKit
set_option linter.unusedSimpArgs false
set_option linter.unusedVariables false

def s1 : List Int → Int | [] => 0 | x :: l => s1 l + x
def s2 : List Int → Int | [] => 0 | x :: l => s2 l + x * x
theorem s1_snoc (l : List Int) (x : Int) : s1 (l ++ [x]) = s1 l + x := by
  induction l with
  | nil => simp [s1]
  | cons y l ih => simp [s1, ih]; omega
theorem s2_snoc (l : List Int) (x : Int) : s2 (l ++ [x]) = s2 l + x * x := by
  induction l with
  | nil => simp [s2]
  | cons y l ih => simp [s2, ih]; omega
theorem s_bd (l : List Int) (h : l.any offI = false) : 0 ≤ s1 l ∧ s1 l ≤ l.length * 16777216 ∧ 0 ≤ s2 l ∧ s2 l ≤ l.length * 281474976710656 := by
  induction l with
  | nil => simp [s1, s2]
  | cons x l ih =>
    simp only [List.any_cons, Bool.or_eq_false_iff] at h
    obtain ⟨i0, i1, i2, i3⟩ := ih h.2
    have hx : wi x 0 16777216 = true := by have := h.1; unfold offI at this; simpa using this
    obtain ⟨x0, x1⟩ := wi_true.1 hx
    have y0 := Int.mul_nonneg x0 x0
    have y1 := Int.mul_le_mul x1 x1 x0 (by omega : (0 : Int) ≤ 16777216)
    simp only [s1, s2, List.length_cons]
    refine ⟨by omega, by omega, by omega, by omega⟩
theorem take_next (l : List Int) (k : Nat) (h : k < l.length) : l.take (k + 1) = l.take k ++ [l.getD k 0] := by
  rw [List.take_add_one, List.getElem?_eq_getElem h]
  simp [List.getD, List.getElem?_eq_getElem h]
theorem off_take {l : List Int} (h : l.any offI = false) (k : Nat) : (l.take k).any offI = false := by
  rw [List.any_eq_false] at h ⊢
  exact fun x hx => h x (List.mem_of_mem_take hx)
def t1 (l : List Int) (k : Nat) : Int := s1 (l.take k)
def t2 (l : List Int) (k : Nat) : Int := s2 (l.take k)
theorem t_succ (l : List Int) (k : Nat) (h : k < l.length) : t1 l (k + 1) = t1 l k + l.getD k 0 ∧ t2 l (k + 1) = t2 l k + l.getD k 0 * l.getD k 0 := by
  unfold t1 t2
  rw [take_next l k h, s1_snoc, s2_snoc]
  exact ⟨rfl, rfl⟩
theorem t_bd (l : List Int) (k : Nat) (h : l.any offI = false) (h64 : l.length ≤ 64) : 0 ≤ t1 l k ∧ t1 l k ≤ 1073741824 ∧ 0 ≤ t2 l k ∧ t2 l k ≤ 18014398509481984 := by
  obtain ⟨a, b, c, d⟩ := s_bd (l.take k) (off_take h k)
  have : (l.take k).length ≤ 64 := by rw [List.length_take]; omega
  unfold t1 t2
  refine ⟨a, by omega, c, by omega⟩
theorem t_all (l : List Int) : t1 l l.length = s1 l ∧ t2 l l.length = s2 l := by unfold t1 t2; rw [List.take_length]; exact ⟨rfl, rfl⟩

theorem Env.set_hd {w0 W : World} {l : List (Nat × TypeId × Array Value)} {g : Nat} {t : TypeId} {cs : Array Value} (h : Env w0 W ((g, t, cs) :: l)) (hd : ∀ x ∈ l, x.1 ≠ g) (i : Nat) (u : Value) :
    Env w0 (W.setCell ⟨g, i, none⟩ u) ((g, t, cs.setIfInBounds i u) :: l) := by
  have hg := (h.2 _ (List.mem_cons_self ..)).1
  refine ⟨h.1.setCell hg _, fun x hx => ?_⟩
  rcases List.mem_cons.1 hx with rfl | hx
  · exact ⟨hg, h.hd.set_ i u⟩
  · have := h.2 x (List.mem_cons_of_mem _ hx)
    exact ⟨this.1, this.2.far (p := ⟨g, i, none⟩) (hd x hx) u⟩

end Go.Proofs.Ytmgkkbmcdnhdeae
