/- Sorting, plainly: the sorted order of a list of ints, and the places that counting gives. -/
import Derived.Test.YtmgkkbmcdnhdeaeCells
namespace Go.Proofs.Ytmgkkbmcdnhdeae
namespace So
def lt (x y : Int) : Bool := decide (y < x)
def IsSort (l T : List Int) : Prop := T.Pairwise (· ≤ ·) ∧ T.Perm l
def ins (x : Int) : List Int → List Int
  | [] => [x]
  | y :: l => if x ≤ y then x :: y :: l else y :: ins x l
theorem ins_perm (x : Int) (l : List Int) : (ins x l).Perm (x :: l) := by
  induction l with
  | nil => exact List.Perm.refl _
  | cons y l ih =>
    unfold ins
    split
    · exact List.Perm.refl _
    · exact (List.Perm.cons y ih).trans (List.Perm.swap x y l)
theorem ins_sorted (x : Int) (l : List Int) (h : l.Pairwise (· ≤ ·)) : (ins x l).Pairwise (· ≤ ·) := by
  induction l with
  | nil => simp [ins]
  | cons y l ih =>
    rw [List.pairwise_cons] at h
    unfold ins
    split
    · rename_i hxy
      rw [List.pairwise_cons]
      exact ⟨fun z hz => by
        rcases List.mem_cons.1 hz with rfl | hz
        · exact hxy
        · have := h.1 z hz; omega, List.pairwise_cons.2 h⟩
    · rename_i hxy
      rw [List.pairwise_cons]
      refine ⟨fun z hz => ?_, ih h.2⟩
      rcases List.mem_cons.1 ((ins_perm x l).mem_iff.1 hz) with rfl | hz
      · omega
      · exact h.1 z hz
def srt : List Int → List Int
  | [] => []
  | x :: l => ins x (srt l)
theorem srt_is (l : List Int) : IsSort l (srt l) := by
  induction l with
  | nil => exact ⟨List.Pairwise.nil, List.Perm.refl _⟩
  | cons x l ih => exact ⟨ins_sorted x _ ih.1, (ins_perm x _).trans (ih.2.cons x)⟩
theorem sorted_none {x : Int} {l : List Int} (h : ∀ y ∈ l, x ≤ y) : l.countP (lt x) = 0 := by
  rw [List.countP_eq_zero]
  intro y hy
  have := h y hy
  simp [lt]; omega
/-- in a sorted list x stands at the places from how many are less to how many are no more -/
theorem place {T : List Int} (hs : T.Pairwise (· ≤ ·)) (x : Int) (p : Nat) : (T.countP (lt x) ≤ p ∧ p < T.countP (lt x) + T.count x) ↔ T[p]? = some x := by
  induction T generalizing p with
  | nil => simp
  | cons y T ih =>
    rw [List.pairwise_cons] at hs
    have ih' := fun p => ih hs.2 p
    rcases Int.lt_trichotomy y x with h | h | h
    · have e1 : (y :: T).countP (lt x) = T.countP (lt x) + 1 := List.countP_cons_of_pos (by simp [lt, h])
      have e2 : (y :: T).count x = T.count x := List.count_cons_of_ne (by omega)
      rw [e1, e2]
      cases p with
      | zero => simp; omega
      | succ p =>
        rw [List.getElem?_cons_succ, ← ih' p]
        omega
    · subst h
      have e1 : (y :: T).countP (lt y) = 0 := sorted_none fun z hz => by
        rcases List.mem_cons.1 hz with rfl | hz
        · exact Int.le_refl _
        · exact hs.1 z hz
      have e0 : T.countP (lt y) = 0 := sorted_none hs.1
      have e2 : (y :: T).count y = T.count y + 1 := List.count_cons_self
      rw [e1, e2]
      cases p with
      | zero => simp
      | succ p =>
        rw [List.getElem?_cons_succ, ← ih' p, e0]
        omega
    · have e1 : (y :: T).countP (lt x) = 0 := sorted_none fun z hz => by
        rcases List.mem_cons.1 hz with rfl | hz
        · omega
        · have := hs.1 z hz; omega
      have e3 : x ∉ y :: T := fun hm => by
        rcases List.mem_cons.1 hm with e | hm
        · omega
        · have := hs.1 x hm; omega
      rw [e1, List.count_eq_zero.2 e3]
      constructor
      · omega
      · intro hp
        exact absurd (List.mem_of_getElem? hp) e3
theorem occ (x : Int) : ∀ (l : List Int) (m : Nat), m < l.count x → ∃ j, j < l.length ∧ l.getD j 0 = x ∧ (l.take j).count x = m
  | [], m, h => by simp at h
  | y :: l, m, h => by
    by_cases hy : y = x
    · subst hy
      rw [List.count_cons_self] at h
      cases m with
      | zero => exact ⟨0, by simp, rfl, rfl⟩
      | succ m =>
        obtain ⟨j, h1, h2, h3⟩ := occ y l m (by omega)
        exact ⟨j + 1, by simp; omega, by simpa using h2, by simp [h3]⟩
    · rw [List.count_cons_of_ne hy] at h
      obtain ⟨j, h1, h2, h3⟩ := occ x l m h
      exact ⟨j + 1, by simp; omega, by simpa using h2, by simp [List.count_cons_of_ne hy, h3]⟩
/-- the place of the value at i -/
def rk (l : List Int) (i : Nat) : Nat := l.countP (lt (l.getD i 0)) + (l.take i).count (l.getD i 0)
theorem getD_some {l : List Int} {j : Nat} (h : j < l.length) : l[j]? = some (l.getD j 0) := by
  simp [List.getD, List.getElem?_eq_getElem h]
theorem take_count {l : List Int} {i : Nat} (h : i < l.length) : (l.take i).count (l.getD i 0) < l.count (l.getD i 0) := by
  have e : l = l.take i ++ l.getD i 0 :: l.drop (i + 1) := by
    have : l[i] :: l.drop (i + 1) = l.drop i := List.getElem_cons_drop ..
    rw [show l.getD i 0 = l[i] by simp [List.getD, List.getElem?_eq_getElem h], this, List.take_append_drop]
  have e2 : l.count (l.getD i 0) = (l.take i ++ l.getD i 0 :: l.drop (i + 1)).count (l.getD i 0) := congrArg (List.count (l.getD i 0)) e
  rw [e2, List.count_append, List.count_cons_self]
  omega
theorem rk_at {l T : List Int} (h : IsSort l T) {i : Nat} (hi : i < l.length) : T[rk l i]? = some (l.getD i 0) := by
  rw [← place h.1, h.2.countP_eq, h.2.count_eq]
  have := take_count hi
  unfold rk
  omega
theorem rk_lt {l T : List Int} (h : IsSort l T) {i : Nat} (hi : i < l.length) : rk l i < l.length := by
  have := (List.getElem?_eq_some_iff.1 (rk_at h hi)).1
  rwa [h.2.length_eq] at this
theorem rk_all {l T : List Int} (h : IsSort l T) {p : Nat} (hp : p < l.length) : ∃ i, i < l.length ∧ rk l i = p := by
  have hp' : p < T.length := by rwa [h.2.length_eq]
  have h1 := (place h.1 (T.getD p 0) p).2 (getD_some hp')
  rw [h.2.countP_eq, h.2.count_eq] at h1
  obtain ⟨j, a, b, c⟩ := occ (T.getD p 0) l (p - l.countP (lt (T.getD p 0))) (by omega)
  refine ⟨j, a, ?_⟩
  unfold rk
  rw [b, c]
  omega
theorem done {l T os : List Int} (h : IsSort l T) (hl : os.length = l.length) (ho : ∀ j, j < l.length → os[rk l j]? = T[rk l j]?) : os = T := by
  apply List.ext_getElem?
  intro p
  by_cases hp : p < l.length
  · obtain ⟨j, hj, rfl⟩ := rk_all h hp
    exact ho j hj
  · rw [List.getElem?_eq_none (by omega), List.getElem?_eq_none (by rw [h.2.length_eq]; omega)]
/-- how far the inner loop has counted -/
def cn (l : List Int) (i k : Nat) : Nat := (l.take k).countP (lt (l.getD i 0)) + (l.take (min k i)).count (l.getD i 0)
theorem cn_zero (l : List Int) (i : Nat) : cn l i 0 = 0 := by simp [cn]
theorem cn_all {l : List Int} {i : Nat} (h : i < l.length) : cn l i l.length = rk l i := by
  unfold cn rk
  rw [List.take_length, show min l.length i = i by omega]
theorem take_snoc {l : List Int} {k : Nat} (h : k < l.length) : l.take (k + 1) = l.take k ++ [l.getD k 0] := by
  rw [List.take_add_one, getD_some h]; rfl
theorem cn_step {l : List Int} {i k : Nat} (hk : k < l.length) :
    cn l i (k + 1) = cn l i k + (if l.getD k 0 < l.getD i 0 ∨ (l.getD k 0 = l.getD i 0 ∧ k < i) then 1 else 0) := by
  unfold cn
  rw [take_snoc hk, List.countP_append]
  have e1 : [l.getD k 0].countP (lt (l.getD i 0)) = if l.getD k 0 < l.getD i 0 then 1 else 0 := by
    simp [List.countP_cons, lt]
  rw [e1]
  by_cases hki : k < i
  · rw [show min (k + 1) i = k + 1 by omega, show min k i = k by omega, take_snoc hk, List.count_append]
    by_cases he : l.getD k 0 = l.getD i 0
    · rw [he]; simp [hki]; omega
    · have e2 : [l.getD k 0].count (l.getD i 0) = 0 := by
        rw [List.count_eq_zero]; simp; exact fun h => he h.symm
      rw [e2]
      by_cases hlt : l.getD k 0 < l.getD i 0
      · rw [if_pos hlt, if_pos (Or.inl hlt)]; omega
      · rw [if_neg hlt, if_neg (fun h => h.elim hlt (fun h => he h.1))]; omega
  · rw [show min (k + 1) i = min k i by omega]
    simp [hki]; omega
theorem cn_le {l : List Int} {i k : Nat} (hk : k ≤ l.length) : cn l i k ≤ 2 * k := by
  unfold cn
  have h1 : (l.take k).countP (lt (l.getD i 0)) ≤ k := Nat.le_trans List.countP_le_length (by rw [List.length_take]; omega)
  have h2 : (l.take (min k i)).count (l.getD i 0) ≤ k := Nat.le_trans List.count_le_length (by rw [List.length_take]; omega)
  omega
theorem put {l T os : List Int} {i : Nat} (h : IsSort l T) (hi : i < l.length) (hl : os.length = l.length) (ho : ∀ j, j < i → os[rk l j]? = T[rk l j]?) :
    ∀ j, j < i + 1 → (os.set (rk l i) (l.getD i 0))[rk l j]? = T[rk l j]? := by
  intro j hj
  have hr := rk_lt h hi
  by_cases e : rk l i = rk l j
  · rw [← e, List.getElem?_set_self (by omega), rk_at h hi]
  · rw [List.getElem?_set_ne e]
    exact ho j (by
      rcases Nat.lt_or_ge j i with h | h
      · exact h
      · exact absurd (by rw [show j = i by omega]) e)
/-- two sorted orders of one list are one -/
theorem uniq {l T U : List Int} (h : IsSort l T) (k : IsSort l U) : T = U :=
  (done (os := T) k (h.2.length_eq) fun j hj => by rw [rk_at h hj, rk_at k hj])
end So
end Go.Proofs.Ytmgkkbmcdnhdeae
