/- Late beats: what Late answers. Plain. -/
import Derived.Test.YtldfppcdklnmlaeChenP
import Derived.Test.YtldfppcdklnmlaeWin
namespace Go.Proofs.Ytldfppcdklnmlae
set_option linter.unusedVariables false

/-- the greatest of the first k (0, if none is greater) -/
def mxT (l : List Int) : Nat → Int
  | 0 => 0
  | k + 1 => if mxT l k < gI l k then gI l k else mxT l k
theorem mxT_bd (l : List Int) (hv : l.any offI = false) : ∀ k, k ≤ l.length → 0 ≤ mxT l k ∧ mxT l k ≤ 16777216 := by
  intro k
  induction k with
  | zero => intro _; simp [mxT]
  | succ k ih =>
    intro hk
    obtain ⟨i0, i1⟩ := ih (by omega)
    obtain ⟨v0, v1⟩ := vals_of hv k (by omega)
    have e : l.getD k 0 = gI l k := rfl
    rw [e] at v0 v1
    simp only [mxT]
    split <;> omega
theorem mxT_ge (l : List Int) : ∀ n k, k < n → gI l k ≤ mxT l n
  | 0, k, h => by omega
  | n + 1, k, h => by
    have h1 : mxT l n ≤ mxT l (n + 1) := by simp only [mxT]; split <;> omega
    by_cases e : k = n
    · subst e
      simp only [mxT]
      split <;> omega
    · have := mxT_ge l n k (by omega)
      omega
theorem mxT_lt (l : List Int) (t : Int) (h0 : 0 < t) : ∀ n, (∀ k, k < n → gI l k < t) → mxT l n < t
  | 0, _ => h0
  | n + 1, h => by
    have h1 := mxT_lt l t h0 n (fun k hk => h k (by omega))
    have h2 := h n (by omega)
    simp only [mxT]
    split <;> omega
def lateE (cap : Int) (l : List Int) (si sl : Int) : Int :=
  if winE cap l = 0 then (if wi si 0 1073741824 = true ∧ wi sl 0 16777216 = true then (if l.length = 0 then 4 else 0) else 1) else winE cap l
def lateB (cap : Int) (l : List Int) (si sl : Int) : Bool := if lateE cap l si sl = 0 then decide (mxT l l.length + sl < si) else false
theorem late_win {cap : Int} {l : List Int} {si sl e : Int} (h : winE cap l = e) (hz : e ≠ 0) : lateE cap l si sl = e ∧ lateB cap l si sl = false := by
  have x : lateE cap l si sl = e := by unfold lateE; rw [if_neg (by rw [h]; exact hz), h]
  exact ⟨x, by unfold lateB; rw [if_neg (by rw [x]; exact hz)]⟩
theorem late_arg {cap : Int} {l : List Int} {si sl : Int} (h : winE cap l = 0) (h1 : wi si 0 1073741824 = false ∨ wi sl 0 16777216 = false) : lateE cap l si sl = 1 ∧ lateB cap l si sl = false := by
  have x : lateE cap l si sl = 1 := by
    unfold lateE
    rw [if_pos h, if_neg (by rintro ⟨a, b⟩; rw [a, b] at h1; simp at h1)]
  exact ⟨x, by unfold lateB; rw [if_neg (by rw [x]; decide)]⟩
theorem late_none {cap : Int} {l : List Int} {si sl : Int} (h : winE cap l = 0) (h1 : wi si 0 1073741824 = true) (h2 : wi sl 0 16777216 = true) (hl : l.length = 0) : lateE cap l si sl = 4 ∧ lateB cap l si sl = false := by
  have x : lateE cap l si sl = 4 := by unfold lateE; rw [if_pos h, if_pos ⟨h1, h2⟩, if_pos hl]
  exact ⟨x, by unfold lateB; rw [if_neg (by rw [x]; decide)]⟩
theorem late_ok {cap : Int} {l : List Int} {si sl : Int} (h : winE cap l = 0) (h1 : wi si 0 1073741824 = true) (h2 : wi sl 0 16777216 = true) (hl : 0 < l.length) : lateE cap l si sl = 0 ∧ lateB cap l si sl = decide (mxT l l.length + sl < si) := by
  have x : lateE cap l si sl = 0 := by unfold lateE; rw [if_pos h, if_pos ⟨h1, h2⟩, if_neg (by omega)]
  exact ⟨x, by unfold lateB; rw [if_pos x]⟩
end Go.Proofs.Ytldfppcdklnmlae
