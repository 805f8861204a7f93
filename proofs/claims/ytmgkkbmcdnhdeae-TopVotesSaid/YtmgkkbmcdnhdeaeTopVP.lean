/- Many levels, now and later, plainly. -/
import Derived.Test.YtmgkkbmcdnhdeaeLvo
import Derived.Test.YtmgkkbmcdnhdeaeLvB
namespace Go.Proofs.Ytmgkkbmcdnhdeae
open Go.RowKit Go.Lib
set_option linter.unusedSimpArgs false
set_option linter.unusedVariables false

/-- levels of the same windows, now and later -/
def LvPairs (P : List (Int × Int)) : Prop := ∀ p ∈ P, 0 ≤ p.1 ∧ p.1 ≤ p.2 ∧ p.2 ≤ 127
theorem LvPairs.nil : LvPairs [] := by simp [LvPairs]
theorem LvPairs.snoc {P : List (Int × Int)} (h : LvPairs P) {x y : Int} (h0 : 0 ≤ x) (h1 : x ≤ y) (h2 : y ≤ 127) : LvPairs (P ++ [(x, y)]) := by
  intro p hp
  rcases List.mem_append.1 hp with hp | hp
  · exact h p hp
  · obtain rfl := List.mem_singleton.1 hp
    exact ⟨h0, h1, h2⟩
theorem lv_vote (f : Int × Int → Int) (P : List (Int × Int)) (h : ∀ p ∈ P, 0 ≤ f p ∧ f p ≤ 127) (h9 : P.length ≤ 9) : voteE (P.map f) = 0 := by
  unfold voteE
  rw [if_neg (by simp; omega), if_neg]
  rw [List.any_eq_true]
  rintro ⟨x, hx, hb⟩
  obtain ⟨p, hp, rfl⟩ := List.mem_map.1 hx
  have := h p hp
  unfold offV at hb
  have hw : wi (f p) 0 127 = true := wi_true.2 this
  rw [hw] at hb
  cases hb
theorem lv_vote1 {P : List (Int × Int)} (h : LvPairs P) (h9 : P.length ≤ 9) : voteE (P.map Prod.fst) = 0 := lv_vote _ P (fun p hp => by have := h p hp; omega) h9
theorem lv_vote2 {P : List (Int × Int)} (h : LvPairs P) (h9 : P.length ≤ 9) : voteE (P.map Prod.snd) = 0 := lv_vote _ P (fun p hp => by have := h p hp; omega) h9
theorem lv_count {P : List (Int × Int)} (h : LvPairs P) (t : Int) : (P.map Prod.fst).countP (geV t) ≤ (P.map Prod.snd).countP (geV t) := by
  induction P with
  | nil => simp
  | cons p P ih =>
    have hp := h p (List.mem_cons_self ..)
    have ih' := ih fun q hq => h q (List.mem_cons_of_mem _ hq)
    rw [List.map_cons, List.map_cons]
    by_cases h1 : t ≤ p.1
    · have h2 : t ≤ p.2 := by omega
      rw [List.countP_cons_of_pos (by simp [geV, h1]), List.countP_cons_of_pos (by simp [geV, h2])]
      omega
    · rw [List.countP_cons_of_neg (by simp [geV]; omega), List.countP_cons]
      omega
theorem lv_kth {P : List (Int × Int)} (h : LvPairs P) {T U : List Int} (hT : So.IsSort (P.map Prod.fst) T) (hU : So.IsSort (P.map Prod.snd) U) (k n : Nat) (hn : P.length = n) (hk0 : 1 ≤ k) (hk : k ≤ n) : T.getD (n - k) 0 ≤ U.getD (n - k) 0 := by
  have h1 := (geV_place hT (T.getD (n - k) 0) k n (by simp [hn]) hk0 hk).2 (Int.le_refl _)
  have h2 := lv_count h (T.getD (n - k) 0)
  exact (geV_place hU (T.getD (n - k) 0) k n (by simp [hn]) hk0 hk).1 (by omega)
theorem log2_small {x : Nat} (h : x < 2 ^ 127) : Nat.log2 x ≤ 127 := by
  by_cases hz : x = 0
  · subst hz; decide
  · exact Nat.le_of_lt ((Nat.log2_lt hz).2 h)
/-- a level is no more than 127 -/
theorem lvF_bd (v : Nat) (N S s : Int) (hv : v ≤ 1152921504606846976) (hd : N * s - S ≤ 68719476736) : Lv.lvF v N S s ≤ 127 := by
  unfold Lv.lvF Lv.sp
  split
  · omega
  · rename_i h
    have h1 : (N * s - S).toNat ≤ 68719476736 := by omega
    have h2 := Nat.mul_le_mul h1 h1
    refine log2_small (Nat.lt_of_le_of_lt (Nat.div_le_self _ _) ?_)
    have : (2 : Nat) ^ 127 = 170141183460469231731687303715884105728 := by decide
    omega
end Go.Proofs.Ytmgkkbmcdnhdeae
